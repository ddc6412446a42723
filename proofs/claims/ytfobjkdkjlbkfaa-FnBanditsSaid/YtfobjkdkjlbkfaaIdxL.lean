/- Leaving and indices, plainly (merged of LvL SumL IdxL). -/
import Derived.Test.YtfobjkdkjlbkfaaTreA
import Derived.Test.YtfobjkdkjlbkfaaPow
import Derived.Test.YtfobjkdkjlbkfaaPrL
import Derived.Test.YtfobjkdkjlbkfaaTrB
namespace Go.Proofs.Ytfobjkdkjlbkfaa

/-- A node's sum times the power of b that its depth leaves. -/
def unitX (P W : List Int) (b : Int) (x : Nat) : Int := nth (gath P W) x * pw b (hgt P - nth (dep P) x).toNat
def unitL (P W : List Int) (b : Int) : List Int := (List.range P.length).map (unitX P W b)
theorem unitL_length (P W : List Int) (b : Int) : (unitL P W b).length = P.length := by simp [unitL]
theorem unitL_nth {P W : List Int} {b : Int} {x : Nat} (h : x < P.length) : nth (unitL P W b) x = unitX P W b x := by simp [unitL, nth, h]
theorem hgt_dep {P W F : List Int} (h : ArmOk P W F) {x : Nat} (hx : x < P.length) : 0 ≤ hgt P - nth (dep P) x ∧ hgt P - nth (dep P) x ≤ 4 := by
  have h1 := mxTo_ge (xs := dep P) hx
  have := dep_bd P x
  have := h.h4
  unfold hgt at *
  omega
theorem pw_four {b : Int} (h0 : 0 ≤ b) (h4 : b ≤ 4) {k : Nat} (hk : k ≤ 4) : 0 ≤ pw b k ∧ pw b k ≤ 256 := pw_bd 4 4 256 (by decide) h0 h4 (by decide) hk
theorem unitX_bd {P W F : List Int} (h : ArmOk P W F) {b : Int} (h0 : 0 ≤ b) (h4 : b ≤ 4) {x : Nat} (hx : x < P.length) : 0 ≤ unitX P W b x ∧ unitX P W b x ≤ 122880 := by
  have h1 := h.tree.sum_bd x
  have h2 := hgt_dep h hx
  have h3 := pw_four h0 h4 (k := (hgt P - nth (dep P) x).toNat) (by omega)
  exact mul_bd _ _ 480 256 h1.1 h1.2 h3.1 h3.2
theorem unitL_bd {P W F : List Int} (h : ArmOk P W F) {b : Int} (h0 : 0 ≤ b) (h4 : b ≤ 4) (x : Nat) : 0 ≤ nth (unitL P W b) x ∧ nth (unitL P W b) x ≤ 122880 := by
  rcases Nat.lt_or_ge x P.length with hx | hx
  · rw [unitL_nth hx]; exact unitX_bd h h0 h4 hx
  · rw [nth_big (by rw [unitL_length]; exact hx)]; omega
theorem mulAbs {x y A B : Int} (hx : -A ≤ x ∧ x ≤ A) (hy : 0 ≤ y ∧ y ≤ B) (hA : 0 ≤ A) : -(A * B) ≤ x * y ∧ x * y ≤ A * B := by
  have h1 : x * y ≤ A * y := Int.mul_le_mul_of_nonneg_right hx.2 hy.1
  have h2 : A * y ≤ A * B := Int.mul_le_mul_of_nonneg_left hy.2 hA
  have h3 : -A * y ≤ x * y := Int.mul_le_mul_of_nonneg_right hx.1 hy.1
  rw [Int.neg_mul] at h3
  omega
theorem kS_abs {P : List Int} {v : Nat → Int} {M : Int} {x k : Nat} (h : ∀ i, i < k → -M ≤ v (nth (kids P (x : Int)) i).toNat ∧ v (nth (kids P (x : Int)) i).toNat ≤ M) : -(M * (k : Int)) ≤ kS P v x k ∧ kS P v x k ≤ M * (k : Int) := by
  induction k with
  | zero => simp [kS]
  | succ k ih =>
    have h1 := h k (by omega)
    have h2 := ih fun i hi => h i (by omega)
    rw [kS, Int.natCast_add, Int.mul_add]
    omega
theorem kS_congr {P : List Int} {v v' : Nat → Int} {x k : Nat} (h : ∀ i, i < k → v (nth (kids P (x : Int)) i).toNat = v' (nth (kids P (x : Int)) i).toNat) : kS P v x k = kS P v' x k := by
  induction k with
  | zero => rfl
  | succ k ih => rw [kS, kS, ih fun i hi => h i (by omega), h k (by omega)]
theorem kid_at {P : List Int} (hp : ParOk P) {x i : Nat} (hi : i < (kids P (x : Int)).length) : ∃ y : Nat, nth (kids P (x : Int)) i = (y : Int) ∧ x < y ∧ y < P.length ∧ nth P y = (x : Int) := by
  rw [nth_eq hi]
  have hm : (kids P (x : Int))[i] ∈ kids P (x : Int) := List.getElem_mem hi
  have h1 := kids_mem hp hm
  obtain ⟨j, h2, h3, h4⟩ := mem_kidTo.1 hm
  rw [h4] at h1 ⊢
  exact ⟨j, rfl, by omega, h2, h3⟩
theorem depL_stable {P : List Int} {i : Nat} : ∀ m, i ≤ m → nth (depL P m) i = nth (depL P i) i
  | 0, h => by obtain rfl : i = 0 := by omega
               rfl
  | m + 1, h => by
    rcases Nat.eq_or_lt_of_le h with rfl | h'
    · rfl
    · rw [depL_succ, nth_app_l (by rw [depL_length]; omega)]
      exact depL_stable m (by omega)
theorem dep_kid {P : List Int} {y p : Nat} (hy : 1 ≤ y) (hlt : y < P.length) (hpy : p < y) (hp : nth P y = (p : Int)) : nth (dep P) y = nth (dep P) p + 1 := by
  unfold dep
  rw [depL_stable _ (by omega : y ≤ P.length - 1), depL_stable _ (by omega : p ≤ P.length - 1), dep_step hy hp, nth_app_r _ _ _ (by rw [dep_len hy]), depL_stable (P := P) (i := p) (y - 1) (by omega)]

/-- What leaving at best is worth at a node. -/
def lv (P F U : List Int) (a l : Int) : Nat → Nat → Int
  | 0, _ => 0
  | n + 1, x => if endB P x then l * nth U x else mxI (l * nth U x) (nth F x * nth U x + kS P (fun y => a * lv P F U a l n y) x (kids P (x : Int)).length)
def lV (P F U : List Int) (a l : Int) (x : Nat) : Int := lv P F U a l P.length x
theorem lv_fuel {P F U : List Int} {a l : Int} (hp : ParOk P) : ∀ n m x, x < P.length → P.length ≤ x + n → P.length ≤ x + m → lv P F U a l n x = lv P F U a l m x
  | 0, _, x, h, h1, _ => by omega
  | _ + 1, 0, x, h, _, h2 => by omega
  | n + 1, m + 1, x, h, h1, h2 => by
    rw [lv, lv]
    rw [kS_congr (v := fun y => a * lv P F U a l n y) (v' := fun y => a * lv P F U a l m y)]
    intro i hi
    obtain ⟨y, e, h3, h4, _⟩ := kid_at hp hi
    rw [e, Int.toNat_natCast]
    show a * _ = a * _
    rw [lv_fuel hp n m y h4 (by omega) (by omega)]
theorem lV_eq {P F U : List Int} {a l : Int} (hp : ParOk P) {x : Nat} (hx : x < P.length) :
    lV P F U a l x = if endB P x then l * nth U x else mxI (l * nth U x) (nth F x * nth U x + kS P (fun y => a * lV P F U a l y) x (kids P (x : Int)).length) := by
  obtain ⟨m, hm⟩ : ∃ m, P.length = m + 1 := ⟨P.length - 1, by omega⟩
  have e : lV P F U a l x = lv P F U a l (m + 1) x := by rw [lV, hm]
  rw [e, lv]
  rw [kS_congr (v := fun y => a * lv P F U a l m y) (v' := fun y => a * lV P F U a l y)]
  intro i hi
  obtain ⟨y, e, h3, h4, _⟩ := kid_at hp hi
  rw [e, Int.toNat_natCast]
  show a * _ = a * _
  rw [lV, lv_fuel hp m P.length y h4 (by omega) (by omega)]
def bB : Nat → Int
  | 0 => 12165120
  | d + 1 => 28 * bB d
theorem bB_ge (d : Nat) : 12165120 ≤ bB d := by
  induction d with
  | zero => exact Int.le_refl _
  | succ d ih => rw [bB]; omega
theorem bB_up {d e : Nat} (h : d ≤ e) : bB d ≤ bB e := by
  induction e with
  | zero => rw [show d = 0 by omega]; exact Int.le_refl _
  | succ e ih =>
    rcases Nat.eq_or_lt_of_le h with rfl | h'
    · exact Int.le_refl _
    · have h1 := ih (by omega)
      have := bB_ge e
      rw [bB]
      omega
/-- An arm, a discount and a fee for leaving. -/
structure LvOk (P W F U : List Int) (a b l : Int) : Prop where
  arm : ArmOk P W F
  a1 : 1 ≤ a
  ab : a < b
  b4 : b ≤ 4
  l0 : -99 ≤ l
  l9 : l ≤ 99
  u : U = unitL P W b
section
variable {P W F U : List Int} {a b l : Int}
theorem LvOk.ub (h : LvOk P W F U a b l) (x : Nat) : 0 ≤ nth U x ∧ nth U x ≤ 122880 := by
  rw [h.u]
  exact unitL_bd h.arm (by have := h.a1; have := h.ab; omega) h.b4 x
theorem LvOk.lu (h : LvOk P W F U a b l) (x : Nat) : -12165120 ≤ l * nth U x ∧ l * nth U x ≤ 12165120 := by
  have := mulAbs (A := 99) (B := 122880) ⟨h.l0, h.l9⟩ (h.ub x) (by decide)
  omega
theorem LvOk.fb (h : LvOk P W F U a b l) (x : Nat) : -99 ≤ nth F x ∧ nth F x ≤ 99 := by
  rcases Nat.lt_or_ge x F.length with hx | hx
  · exact allB_nth h.arm.fees hx
  · rw [nth_big hx]; omega
theorem LvOk.fu (h : LvOk P W F U a b l) (x : Nat) : -12165120 ≤ nth F x * nth U x ∧ nth F x * nth U x ≤ 12165120 := by
  have := mulAbs (A := 99) (B := 122880) (h.fb x) (h.ub x) (by decide)
  omega
theorem mxI_abs {x y M : Int} (hx : -M ≤ x ∧ x ≤ M) (hy : -M ≤ y ∧ y ≤ M) : -M ≤ mxI x y ∧ mxI x y ≤ M := by
  unfold mxI
  split <;> omega
theorem LvOk.lv_bd (h : LvOk P W F U a b l) : ∀ n x, x < P.length → -bB (4 - (nth (dep P) x).toNat) ≤ lv P F U a l n x ∧ lv P F U a l n x ≤ bB (4 - (nth (dep P) x).toNat)
  | 0, x, _ => by
    have := bB_ge (4 - (nth (dep P) x).toNat)
    rw [lv]
    omega
  | n + 1, x, hx => by
    have hge := bB_ge (4 - (nth (dep P) x).toNat)
    have h1 := h.lu x
    rw [lv]
    split
    · omega
    · refine mxI_abs (by omega) ?_
      have h2 := h.fu x
      have hd := h.arm.depth hx
      have hk9 : (kids P (x : Int)).length ≤ 9 := Nat.le_trans (kidTo_len P x P.length) h.arm.n9
      rcases Nat.eq_zero_or_pos (kids P (x : Int)).length with h0 | h0
      · rw [h0, kS]
        omega
      · obtain ⟨y0, _, h3, h4, h5⟩ := kid_at h.arm.tree.par h0
        have h6 := dep_kid (by omega) h4 h3 h5
        have h7 := h.arm.depth h4
        obtain ⟨e, he⟩ : ∃ e, 4 - (nth (dep P) x).toNat = e + 1 := ⟨3 - (nth (dep P) x).toNat, by omega⟩
        rw [he] at hge ⊢
        have key := kS_abs (P := P) (v := fun y => a * lv P F U a l n y) (M := 3 * bB e) (x := x) (k := (kids P (x : Int)).length) (fun i hi => by
          obtain ⟨y, ey, g3, g4, g5⟩ := kid_at h.arm.tree.par hi
          have g6 := dep_kid (by omega) g4 g3 g5
          have g7 := h.lv_bd n y g4
          rw [show 4 - (nth (dep P) y).toNat = e by omega] at g7
          rw [ey, Int.toNat_natCast]
          have := mulAbs (A := bB e) (B := 3) g7 (y := a) ⟨by have := h.a1; omega, by have := h.ab; have := h.b4; omega⟩ (by have := bB_ge e; omega)
          rw [Int.mul_comm (lv P F U a l n y) a, Int.mul_comm (bB e) 3] at this
          exact this)
        have hb := bB_ge e
        have hm : 3 * bB e * ((kids P (x : Int)).length : Int) ≤ 3 * bB e * 9 := Int.mul_le_mul_of_nonneg_left (by omega) (by omega)
        rw [bB] at hge ⊢
        omega
theorem LvOk.bd (h : LvOk P W F U a b l) {x : Nat} (hx : x < P.length) : -10000000000000 ≤ lV P F U a l x ∧ lV P F U a l x ≤ 10000000000000 := by
  have h1 := h.lv_bd P.length x hx
  have h2 := bB_up (show 4 - (nth (dep P) x).toNat ≤ 4 by omega)
  have h3 : bB 4 = 7477401354240 ∨ bB 4 ≤ 10000000000000 := .inr (by decide)
  unfold lV
  omega
theorem LvOk.abd (h : LvOk P W F U a b l) {x : Nat} (hx : x < P.length) : -30000000000000 ≤ a * lV P F U a l x ∧ a * lV P F U a l x ≤ 30000000000000 := by
  have := mulAbs (A := 10000000000000) (B := 3) (h.bd hx) (y := a) ⟨by have := h.a1; omega, by have := h.ab; have := h.b4; omega⟩ (by decide)
  rw [Int.mul_comm (lV P F U a l x) a] at this
  omega
/-- The sum over the first k children. -/
def onTo (P F U : List Int) (a l : Int) (x k : Nat) : Int := nth F x * nth U x + kS P (fun y => a * lV P F U a l y) x k
theorem onTo_zero (P F U : List Int) (a l : Int) (x : Nat) : onTo P F U a l x 0 = nth F x * nth U x := by simp [onTo, kS]
theorem onTo_succ (P F U : List Int) (a l : Int) (x k : Nat) : onTo P F U a l x (k + 1) = onTo P F U a l x k + a * lV P F U a l (nth (kids P (x : Int)) k).toNat := by
  rw [onTo, onTo, kS, Int.add_assoc]
theorem LvOk.on_bd (h : LvOk P W F U a b l) {x k : Nat} (hk : k ≤ (kids P (x : Int)).length) : -1000000000000000 ≤ onTo P F U a l x k ∧ onTo P F U a l x k ≤ 1000000000000000 := by
  have h1 := h.fu x
  have hk9 : (kids P (x : Int)).length ≤ 9 := Nat.le_trans (kidTo_len P x P.length) h.arm.n9
  have key := kS_abs (P := P) (v := fun y => a * lV P F U a l y) (M := 30000000000000) (x := x) (k := k) (fun i hi => by
    obtain ⟨y, ey, g3, g4, g5⟩ := kid_at h.arm.tree.par (show i < (kids P (x : Int)).length by omega)
    rw [ey, Int.toNat_natCast]
    exact h.abd g4)
  unfold onTo
  omega
theorem lV_end (hp : ParOk P) {x : Nat} (hx : x < P.length) (he : endB P x = true) : lV P F U a l x = l * nth U x := by rw [lV_eq hp hx, he]; rfl
theorem lV_in (hp : ParOk P) {x : Nat} (hx : x < P.length) (he : endB P x = false) : lV P F U a l x = mxI (l * nth U x) (onTo P F U a l x (kids P (x : Int)).length) := by rw [lV_eq hp hx, he]; rfl
end
/-- Whether a pair is a discount. -/
def discB (a b : Int) : Bool := decide (1 ≤ a) && decide (a < b) && decide (b ≤ 4)
def lvB (P W F : List Int) (a b l : Int) : Bool := armB P W F && discB a b && inB l (-99) 99
def lvV (P W F : List Int) (a b l : Int) : Int := if lvB P W F a b l then lV P F (unitL P W b) a l 0 else 0
theorem lvB_iff {P W F : List Int} {a b l : Int} : lvB P W F a b l = true ↔ LvOk P W F (unitL P W b) a b l := by
  simp only [lvB, discB, inB, Bool.and_eq_true, decide_eq_true_eq, armB_iff]
  constructor
  · rintro ⟨⟨h1, ⟨h2, h3⟩, h4⟩, h5, h6⟩; exact ⟨h1, h2, h3, h4, h5, h6, rfl⟩
  · rintro ⟨h1, h2, h3, h4, h5, h6, _⟩; exact ⟨⟨h1, ⟨h2, h3⟩, h4⟩, h5, h6⟩
theorem lvB_1 {P W F : List Int} {a b l : Int} (h : (armB P W F && discB a b) = false) : lvB P W F a b l = false := by simp [lvB, h]
theorem lvB_2 {P W F : List Int} {a b l : Int} (h : inB l (-99) 99 = false) : lvB P W F a b l = false := by simp [lvB, h]
theorem lvB_3 {P W F : List Int} {a b l : Int} (h : (armB P W F && discB a b) = true) (h2 : inB l (-99) 99 = true) : lvB P W F a b l = true := by rw [lvB, h, h2]; rfl
theorem lvV_no {P W F : List Int} {a b l : Int} (h : lvB P W F a b l = false) : lvV P W F a b l = 0 := by simp [lvV, h]
theorem lvV_yes {P W F : List Int} {a b l : Int} (h : lvB P W F a b l = true) : lvV P W F a b l = lV P F (unitL P W b) a l 0 := by simp [lvV, h]

/-- A sum over the numbers below n. -/
def sN (f : Nat → Int) : Nat → Int
  | 0 => 0
  | n + 1 => sN f n + f n
theorem sN_congr {f g : Nat → Int} : ∀ {n}, (∀ i, i < n → f i = g i) → sN f n = sN g n
  | 0, _ => rfl
  | n + 1, h => by rw [sN, sN, sN_congr (fun i hi => h i (by omega)), h n (by omega)]
theorem sN_add (f g : Nat → Int) : ∀ n, sN (fun i => f i + g i) n = sN f n + sN g n
  | 0 => rfl
  | n + 1 => by rw [sN, sN, sN, sN_add f g n]; omega
theorem sN_mul (c : Int) (f : Nat → Int) : ∀ n, sN (fun i => c * f i) n = c * sN f n
  | 0 => by simp [sN]
  | n + 1 => by rw [sN, sN, sN_mul c f n, Int.mul_add]
theorem sN_zero {f : Nat → Int} : ∀ {n}, (∀ i, i < n → f i = 0) → sN f n = 0
  | 0, _ => rfl
  | n + 1, h => by rw [sN, sN_zero (fun i hi => h i (by omega)), h n (by omega)]; rfl
theorem sN_one {f : Nat → Int} {k : Nat} : ∀ {n}, k < n → (∀ i, i < n → i ≠ k → f i = 0) → sN f n = f k
  | 0, h, _ => by omega
  | n + 1, h, h0 => by
    rw [sN]
    rcases Nat.eq_or_lt_of_le (Nat.lt_succ_iff.1 h) with rfl | h'
    · rw [sN_zero fun i hi => h0 i (by omega) (by omega)]; omega
    · rw [sN_one h' fun i hi hk => h0 i (by omega) hk, h0 n (by omega) (by omega)]; omega
theorem sN_le {f g : Nat → Int} : ∀ {n}, (∀ i, i < n → f i ≤ g i) → sN f n ≤ sN g n
  | 0, _ => Int.le_refl _
  | n + 1, h => by
    have h1 := sN_le (f := f) (g := g) (n := n) fun i hi => h i (by omega)
    have h2 := h n (by omega)
    rw [sN, sN]; omega
theorem sN_bd {f : Nat → Int} {M : Int} : ∀ {n}, (∀ i, i < n → -M ≤ f i ∧ f i ≤ M) → -(M * (n : Int)) ≤ sN f n ∧ sN f n ≤ M * (n : Int)
  | 0, _ => by simp [sN]
  | n + 1, h => by
    have h1 := sN_bd (f := f) (M := M) (n := n) fun i hi => h i (by omega)
    have h2 := h n (by omega)
    rw [sN, Int.natCast_add, Int.mul_add]
    omega
theorem sN_comm (f : Nat → Nat → Int) (m : Nat) : ∀ n, sN (fun i => sN (fun j => f i j) m) n = sN (fun j => sN (fun i => f i j) n) m
  | 0 => by rw [sN, sN_zero]; intro i _; rfl
  | n + 1 => by
    rw [sN, sN_comm f m n, ← sN_add]
    rfl
theorem sN_up {f : Nat → Int} {n : Nat} : ∀ {m}, n ≤ m → (∀ i, n ≤ i → i < m → f i = 0) → sN f m = sN f n
  | 0, h, _ => by obtain rfl : n = 0 := by omega
                  rfl
  | m + 1, h, h0 => by
    rcases Nat.eq_or_lt_of_le h with rfl | h'
    · rfl
    · rw [sN, sN_up (m := m) (by omega) (fun i h1 h2 => h0 i h1 (by omega)), h0 m (by omega) (by omega)]; omega
/-- A sum over children. -/
theorem kS_sN_to {P : List Int} (v : Nat → Int) (x : Nat) : ∀ m, (∀ k, k ≤ (kidTo P (x : Int) m).length → True) → ((kidTo P (x : Int) m).map fun y => v y.toNat).sum = sN (fun z => if nth P z = (x : Int) then v z else 0) m
  | 0, _ => rfl
  | m + 1, _ => by
    have ih := kS_sN_to (P := P) v x m fun _ _ => trivial
    rw [sN]
    by_cases h : nth P m = (x : Int)
    · rw [kidTo_yes h, if_pos h, List.map_append, List.sum_append, ih]; simp
    · rw [kidTo_no h, if_neg h, ih]; omega
theorem kS_take {P : List Int} (v : Nat → Int) (x : Nat) : ∀ k, k ≤ (kids P (x : Int)).length → kS P v x k = (((kids P (x : Int)).take k).map fun y => v y.toNat).sum
  | 0, _ => by simp [kS]
  | k + 1, h => by
    rw [kS, kS_take v x k (by omega), List.take_succ_eq_append_getElem (by omega), List.map_append, List.sum_append, ← nth_eq (by omega)]
    simp
theorem kS_sN {P : List Int} (v : Nat → Int) (x : Nat) : kS P v x (kids P (x : Int)).length = sN (fun z => if nth P z = (x : Int) then v z else 0) P.length := by
  rw [kS_take v x _ (Nat.le_refl _), List.take_length]
  exact kS_sN_to v x P.length fun _ _ => trivial

/-- y is x, or it and all nodes on the way up to x are in. -/
def rch (P : List Int) (i : Nat → Bool) (x : Nat) (y : Nat) : Bool :=
  if y = x then true else if _ : x < y ∧ (nth P y).toNat < y then i y && rch P i x (nth P y).toNat else false
termination_by y
decreasing_by omega
section
variable {P : List Int} {i i' : Nat → Bool} {x y p : Nat}
theorem rch_self : rch P i x x = true := by rw [rch, if_pos rfl]
theorem rch_low (h : y < x) : rch P i x y = false := by rw [rch, if_neg (by omega), dif_neg (by omega)]
theorem rch_step (hy : nth P y = (p : Int)) (hp : p < y) (h : x < y) : rch P i x y = (i y && rch P i x p) := by
  rw [rch, if_neg (by omega), dif_pos (by rw [hy, Int.toNat_natCast]; exact ⟨h, hp⟩), hy, Int.toNat_natCast]
theorem par_of (hp : ParOk P) (h : x < y) (hy : y < P.length) : ∃ p : Nat, nth P y = (p : Int) ∧ p < y := by
  have := hp.up y (by omega) hy
  exact ⟨(nth P y).toNat, by omega, by omega⟩
theorem rch_le (h : rch P i x y = true) : x ≤ y := by
  rcases Nat.lt_or_ge y x with h' | h'
  · rw [rch_low h'] at h; cases h
  · exact h'
theorem rch_in (h : rch P i x y = true) (hne : y ≠ x) : i y = true := by
  rw [rch, if_neg hne] at h
  split at h
  · simp only [Bool.and_eq_true] at h; exact h.1
  · cases h
theorem rch_congr (hp : ParOk P) (hy : y < P.length) (h : ∀ z, x < z → z ≤ y → rch P i' x z = true ∨ rch P i x z = true → i z = i' z) : rch P i x y = rch P i' x y := by
  induction y using Nat.strongRecOn with
  | _ y ih =>
    rcases Nat.lt_trichotomy y x with h1 | rfl | h1
    · rw [rch_low h1, rch_low h1]
    · rw [rch_self, rch_self]
    · obtain ⟨q, hq, hlt⟩ := par_of hp h1 hy
      have e := ih q hlt (by omega) fun z hz hz' => h z hz (by omega)
      have hy' := h y h1 (Nat.le_refl _)
      rw [rch_step hq hlt h1, rch_step hq hlt h1] at hy' ⊢
      rw [e] at hy' ⊢
      rcases Bool.eq_false_or_eq_true (rch P i' x q) with hb | hb
      · rw [hb] at hy' ⊢
        simp only [Bool.and_true] at hy' ⊢
        rcases Bool.eq_false_or_eq_true (i y) with hi | hi
        · exact hy' (.inr hi)
        · rcases Bool.eq_false_or_eq_true (i' y) with hj | hj
          · exact hy' (.inl hj)
          · rw [hi, hj]
      · rw [hb, Bool.and_false, Bool.and_false]
/-- Of a node that is reached and is not x itself, the way goes through one child of x. -/
theorem rch_kids (hp : ParOk P) (c : Int) (hy : y < P.length) (hne : y ≠ x) :
    sN (fun z => if nth P z = (x : Int) ∧ i z = true ∧ rch P i z y = true then c else 0) P.length = if rch P i x y = true then c else 0 := by
  induction y using Nat.strongRecOn with
  | _ y ih =>
    have hkid : ∀ z, z < P.length → nth P z = (x : Int) → x < z := by
      intro z hz he
      rcases Nat.eq_zero_or_pos z with rfl | h0
      · have := hp.zero; omega
      · have := hp.up z h0 hz; omega
    rcases Nat.lt_or_ge x y with h1 | h1
    · obtain ⟨q, hq, hlt⟩ := par_of hp h1 hy
      rw [rch_step hq hlt h1]
      rcases Nat.lt_trichotomy q x with h2 | rfl | h2
      · rw [rch_low h2, Bool.and_false]
        rw [sN_zero]
        · rfl
        · intro z hz
          refine if_neg ?_
          rintro ⟨e1, e2, e3⟩
          have h3 := hkid z hz e1
          rcases Nat.lt_trichotomy y z with h4 | rfl | h4
          · rw [rch_low h4] at e3; cases e3
          · rw [hq] at e1; omega
          · rw [rch_step hq hlt h4, rch_low (by omega)] at e3; simp at e3
      · rw [rch_self, Bool.and_true]
        rw [sN_one hy]
        · show (if nth P y = (q : Int) ∧ i y = true ∧ rch P i y y = true then c else 0) = _
          rw [rch_self]
          by_cases hi : i y = true
          · rw [if_pos ⟨hq, hi, rfl⟩, if_pos hi]
          · rw [if_neg (fun h => hi h.2.1), if_neg hi]
        · intro z hz hzy
          refine if_neg ?_
          rintro ⟨e1, e2, e3⟩
          have h3 := hkid z hz e1
          rcases Nat.lt_or_ge y z with h4 | h4
          · rw [rch_low h4] at e3; cases e3
          · rw [rch_step hq hlt (by omega), rch_low (by omega)] at e3; simp at e3
      · have e := ih q hlt (by omega) (by omega)
        by_cases hi : i y = true
        · rw [hi, Bool.true_and, ← e]
          refine sN_congr fun z hz => ?_
          by_cases e1 : nth P z = (x : Int)
          · have h3 := hkid z hz e1
            rcases Nat.lt_trichotomy y z with h4 | rfl | h4
            · rw [rch_low h4, rch_low (show q < z by omega)]
            · rw [hq] at e1; omega
            · rw [rch_step hq hlt h4, hi, Bool.true_and]
          · rw [if_neg (fun h => e1 h.1), if_neg (fun h => e1 h.1)]
        · rw [sN_zero]
          · simp [hi]
          · intro z hz
            refine if_neg ?_
            rintro ⟨e1, e2, e3⟩
            have h3 := hkid z hz e1
            rcases Nat.lt_trichotomy y z with h4 | rfl | h4
            · rw [rch_low h4] at e3; cases e3
            · rw [hq] at e1; omega
            · rw [rch_step hq hlt h4] at e3
              simp only [Bool.and_eq_true] at e3
              exact hi e3.1
    · have h1' : y < x := by omega
      rw [rch_low h1', sN_zero]
      · rfl
      · intro z hz
        refine if_neg ?_
        rintro ⟨e1, e2, e3⟩
        have h3 := hkid z hz e1
        rw [rch_low (by omega)] at e3
        cases e3
end
/-- A depth. -/
def dpN (P : List Int) (x : Nat) : Nat := (nth (dep P) x).toNat
theorem dpN_kid {P : List Int} (hp : ParOk P) {x z : Nat} (hz : z < P.length) (h : nth P z = (x : Int)) : x < z ∧ dpN P z = dpN P x + 1 := by
  have h1 : 1 ≤ z := by
    rcases Nat.eq_zero_or_pos z with rfl | h0
    · have := hp.zero; omega
    · exact h0
  have h2 := hp.up z h1 hz
  have h3 := dep_kid (p := x) h1 hz (by omega) h
  have h4 := dep_bd P x
  unfold dpN
  refine ⟨by omega, by omega⟩
theorem rch_dep {P : List Int} (hp : ParOk P) {i : Nat → Bool} {x y : Nat} (hy : y < P.length) (h : rch P i x y = true) : dpN P x ≤ dpN P y := by
  induction y using Nat.strongRecOn with
  | _ y ih =>
    rcases Nat.eq_or_lt_of_le (rch_le h) with rfl | h1
    · exact Nat.le_refl _
    · obtain ⟨q, hq, hlt⟩ := par_of hp h1 hy
      rw [rch_step hq hlt h1, Bool.and_eq_true] at h
      have := ih q hlt (by omega) h.2
      have := (dpN_kid hp hy hq).2
      omega
/-- What is gained from a node on through a set, child by child. -/
def gnV (P : List Int) (a : Int) (i : Nat → Bool) (v : Nat → Int) : Nat → Nat → Int
  | 0, _ => 0
  | n + 1, x => v x + a * sN (fun z => if nth P z = (x : Int) ∧ i z = true then gnV P a i v n z else 0) P.length
/-- The same, node by node. -/
def tot (P : List Int) (a : Int) (i : Nat → Bool) (v : Nat → Int) (x : Nat) : Int :=
  sN (fun y => if rch P i x y = true then pw a (dpN P y - dpN P x) * v y else 0) P.length
theorem gnV_tot {P : List Int} (hp : ParOk P) (a : Int) (i : Nat → Bool) (v : Nat → Int) : ∀ n x, x < P.length → P.length ≤ x + n → gnV P a i v n x = tot P a i v x
  | 0, x, h, h1 => by omega
  | n + 1, x, h, h1 => by
    rw [gnV, ← sN_mul]
    have e : sN (fun z => a * if nth P z = (x : Int) ∧ i z = true then gnV P a i v n z else 0) P.length
        = sN (fun z => sN (fun y => if nth P z = (x : Int) ∧ i z = true ∧ rch P i z y = true then pw a (dpN P y - dpN P x) * v y else 0) P.length) P.length := by
      refine sN_congr fun z hz => ?_
      by_cases hk : nth P z = (x : Int) ∧ i z = true
      · have hd := dpN_kid hp hz hk.1
        rw [if_pos hk, gnV_tot hp a i v n z hz (by omega), tot, ← sN_mul]
        refine sN_congr fun y hy => ?_
        by_cases hr : rch P i z y = true
        · have hd2 := rch_dep hp hy hr
          rw [if_pos hr, if_pos ⟨hk.1, hk.2, hr⟩]
          obtain ⟨k, hk1⟩ : ∃ k, dpN P y - dpN P x = k + 1 := ⟨dpN P y - dpN P x - 1, by omega⟩
          rw [show dpN P y - dpN P z = k by omega, hk1, pw_succ]
          grind
        · rw [if_neg hr, if_neg (fun h => hr h.2.2), Int.mul_zero]
      · rw [if_neg hk, Int.mul_zero, sN_zero]
        intro y hy
        exact if_neg fun h => hk ⟨h.1, h.2.1⟩
    rw [e, sN_comm, tot]
    have e2 : v x = sN (fun y => if y = x then v x else 0) P.length := by
      rw [sN_one h]
      · exact (if_pos rfl).symm
      · intro j _ hj
        exact if_neg hj
    rw [e2, ← sN_add]
    refine sN_congr fun y hy => ?_
    by_cases hyx : y = x
    · subst hyx
      rw [if_pos rfl, rch_self, if_pos rfl, Nat.sub_self, sN_zero]
      · show _ = 1 * v y
        omega
      · intro z hz
        refine if_neg ?_
        rintro ⟨e1, _, e3⟩
        have := (dpN_kid hp hz e1).1
        rw [rch_low this] at e3
        cases e3
    · rw [if_neg hyx, rch_kids hp _ hy hyx]
      omega
/-- The greatest gain through sets. -/
def lsV (P : List Int) (a : Int) (e : Nat → Bool) (v : Nat → Int) : Nat → Nat → Int
  | 0, _ => 0
  | n + 1, x => v x + sN (fun z => if nth P z = (x : Int) then (if e z = true then a * mxI (lsV P a e v n z) 0 else 0) else 0) P.length
theorem mxI_ge_l (x y : Int) : x ≤ mxI x y := by unfold mxI; split <;> omega
theorem mxI_ge_r (x y : Int) : y ≤ mxI x y := by unfold mxI; split <;> omega
theorem gnV_le {P : List Int} {a : Int} (ha : 0 ≤ a) {e i : Nat → Bool} (hi : ∀ z, i z = true → e z = true) (v : Nat → Int) : ∀ n x, gnV P a i v n x ≤ lsV P a e v n x
  | 0, _ => Int.le_refl _
  | n + 1, x => by
    rw [gnV, lsV, ← sN_mul]
    have := sN_le (n := P.length) (f := fun z => a * if nth P z = (x : Int) ∧ i z = true then gnV P a i v n z else 0) (g := fun z => if nth P z = (x : Int) then (if e z = true then a * mxI (lsV P a e v n z) 0 else 0) else 0) fun z hz => by
      by_cases h1 : nth P z = (x : Int)
      · rw [if_pos h1]
        by_cases h2 : i z = true
        · rw [if_pos ⟨h1, h2⟩, if_pos (hi z h2)]
          exact Int.mul_le_mul_of_nonneg_left (Int.le_trans (gnV_le ha hi v n z) (mxI_ge_l _ _)) ha
        · rw [if_neg (fun h => h2 h.2), Int.mul_zero]
          split
          · exact Int.mul_nonneg ha (mxI_ge_r _ _)
          · exact Int.le_refl _
      · rw [if_neg (fun h => h1 h.1), if_neg h1, Int.mul_zero]
        exact Int.le_refl _
    omega
theorem gnV_eq {P : List Int} {a : Int} {e : Nat → Bool} (v : Nat → Int) (N : Nat) (i : Nat → Bool) (hp : ParOk P) (hN : ∀ z, z < P.length → i z = (e z && decide (0 ≤ lsV P a e v N z))) (hf : ∀ n z, z < P.length → P.length ≤ z + n → lsV P a e v n z = lsV P a e v N z) :
    ∀ n x, x < P.length → P.length ≤ x + n → gnV P a i v n x = lsV P a e v n x
  | 0, x, h, h1 => by omega
  | n + 1, x, h, h1 => by
    rw [gnV, lsV, ← sN_mul]
    congr 1
    refine sN_congr fun z hz => ?_
    by_cases h2 : nth P z = (x : Int)
    · have h3 := (dpN_kid hp hz h2).1
      rw [if_pos h2]
      have e1 := gnV_eq (a := a) v N i hp hN hf n z hz (by omega)
      have e2 := hf n z hz (by omega)
      have e3 := hN z hz
      by_cases h4 : e z = true
      · rw [if_pos h4]
        rw [h4, Bool.true_and] at e3
        by_cases h5 : 0 ≤ lsV P a e v N z
        · rw [if_pos ⟨h2, by rw [e3]; exact decide_eq_true h5⟩, e1]
          congr 1
          unfold mxI
          rw [e2]
          split <;> omega
        · rw [if_neg (fun h => by rw [e3] at h; exact h5 (of_decide_eq_true h.2)), Int.mul_zero, e2]
          unfold mxI
          rw [if_neg (by omega), Int.mul_zero]
      · rw [if_neg h4, if_neg (fun h => by rw [e3] at h; simp only [Bool.and_eq_true] at h; exact h4 h.2.1), Int.mul_zero]
    · rw [if_neg h2, if_neg (fun h => h2 h.1), Int.mul_zero]
theorem lsV_fuel {P : List Int} {a : Int} {e : Nat → Bool} {v : Nat → Int} (hp : ParOk P) : ∀ n m x, x < P.length → P.length ≤ x + n → P.length ≤ x + m → lsV P a e v n x = lsV P a e v m x
  | 0, m, x, h, h1, _ => by omega
  | _ + 1, 0, x, h, _, h2 => by omega
  | n + 1, m + 1, x, h, h1, h2 => by
    rw [lsV, lsV]
    congr 1
    refine sN_congr fun z hz => ?_
    by_cases h3 : nth P z = (x : Int)
    · have h4 := (dpN_kid hp hz h3).1
      rw [if_pos h3, if_pos h3, lsV_fuel hp n m z hz (by omega) (by omega)]
    · rw [if_neg h3, if_neg h3]

/-- A list of numbers has a number. -/
def hasI (s : List Int) (p : Int) : Bool := s.any fun q => q == p
theorem hasI_iff {s : List Int} {p : Int} : hasI s p = true ↔ p ∈ s := by simp [hasI]
/-- The sets that y is added to, of the first m ones. -/
def stsIn (L : List (List Int)) (p y : Int) (m : Nat) : List (List Int) := ((L.take m).filter fun s => hasI s p).map fun s => s ++ [y]
theorem stsIn_yes {L : List (List Int)} {p y : Int} {m : Nat} (hm : m < L.length) (h : hasI (L.getD m []) p = true) : stsIn L p y (m + 1) = stsIn L p y m ++ [L.getD m [] ++ [y]] := by
  have e : L.getD m [] = L[m] := by simp [List.getD_eq_getElem?_getD, hm]
  rw [e] at h ⊢
  unfold stsIn
  rw [List.take_succ_eq_append_getElem hm, List.filter_append, List.map_append]
  simp [h]
theorem stsIn_no {L : List (List Int)} {p y : Int} {m : Nat} (hm : m < L.length) (h : hasI (L.getD m []) p = false) : stsIn L p y (m + 1) = stsIn L p y m := by
  have e : L.getD m [] = L[m] := by simp [List.getD_eq_getElem?_getD, hm]
  rw [e] at h
  unfold stsIn
  rw [List.take_succ_eq_append_getElem hm, List.filter_append, List.map_append]
  simp [h]
theorem stsIn_zero (L : List (List Int)) (p y : Int) : stsIn L p y 0 = [] := rfl
theorem stsIn_len (L : List (List Int)) (p y : Int) (m : Nat) : (stsIn L p y m).length ≤ m := by
  unfold stsIn
  rw [List.length_map]
  refine Nat.le_trans (List.length_filter_le _ _) ?_
  rw [List.length_take]
  omega
/-- The sets when the k nodes behind x have been seen. -/
def stsTo (P : List Int) (x : Nat) : Nat → List (List Int)
  | 0 => [[(x : Int)]]
  | k + 1 => if endB P (x + 1 + k) then stsTo P x k else stsTo P x k ++ stsIn (stsTo P x k) (nth P (x + 1 + k)) ((x + 1 + k : Nat) : Int) (stsTo P x k).length
def sts (P : List Int) (x : Nat) : List (List Int) := if endB P x then [] else stsTo P x (P.length - 1 - x)
theorem stsTo_len (P : List Int) (x : Nat) : ∀ k, (stsTo P x k).length ≤ 2 ^ k
  | 0 => Nat.le_refl _
  | k + 1 => by
    have h := stsTo_len P x k
    have h2 := stsIn_len (stsTo P x k) (nth P (x + 1 + k)) ((x + 1 + k : Nat) : Int) (stsTo P x k).length
    rw [stsTo, Nat.pow_succ]
    split
    · omega
    · rw [List.length_append]; omega
theorem stsTo_pos (P : List Int) (x : Nat) : ∀ k, 0 < (stsTo P x k).length
  | 0 => Nat.one_pos
  | k + 1 => by
    have h := stsTo_pos P x k
    rw [stsTo]
    split
    · exact h
    · rw [List.length_append]; omega
/-- The nodes below k that are reached. -/
def rL (P : List Int) (i : Nat → Bool) (x k : Nat) : List Int := ((List.range k).filter fun y => rch P i x y).map fun (y : Nat) => (y : Int)
theorem rL_yes {P : List Int} {i : Nat → Bool} {x k : Nat} (h : rch P i x k = true) : rL P i x (k + 1) = rL P i x k ++ [(k : Int)] := by
  simp [rL, List.range_succ, List.filter_append, h]
theorem rL_no {P : List Int} {i : Nat → Bool} {x k : Nat} (h : rch P i x k = false) : rL P i x (k + 1) = rL P i x k := by
  simp [rL, List.range_succ, List.filter_append, h]
theorem mem_rL {P : List Int} {i : Nat → Bool} {x k : Nat} {q : Int} : q ∈ rL P i x k ↔ ∃ y : Nat, y < k ∧ rch P i x y = true ∧ q = (y : Int) := by
  simp only [rL, List.mem_map, List.mem_filter, List.mem_range]
  constructor
  · rintro ⟨j, ⟨h1, h2⟩, rfl⟩; exact ⟨j, h1, h2, rfl⟩
  · rintro ⟨j, h1, h2, rfl⟩; exact ⟨j, ⟨h1, h2⟩, rfl⟩
theorem rL_congr {P : List Int} {i i' : Nat → Bool} {x k : Nat} (h : ∀ y, y < k → rch P i x y = rch P i' x y) : rL P i x k = rL P i' x k := by
  unfold rL
  congr 1
  refine List.filter_congr fun y hy => ?_
  exact h y (List.mem_range.1 hy)
theorem rL_start (P : List Int) (i : Nat → Bool) (x : Nat) : rL P i x (x + 1) = [(x : Int)] := by
  rw [rL_yes rch_self]
  have : rL P i x x = [] := by
    rw [List.eq_nil_iff_forall_not_mem]
    intro q hq
    obtain ⟨y, hy, hr, _⟩ := mem_rL.1 hq
    rw [rch_low hy] at hr
    cases hr
  rw [this]
  rfl
theorem mem_stsIn {L : List (List Int)} {p y : Int} {s : List Int} : s ∈ stsIn L p y L.length ↔ ∃ t ∈ L, p ∈ t ∧ s = t ++ [y] := by
  simp only [stsIn, List.take_length, List.mem_map, List.mem_filter, hasI_iff]
  constructor
  · rintro ⟨t, ⟨h1, h2⟩, rfl⟩; exact ⟨t, h1, h2, rfl⟩
  · rintro ⟨t, h1, h2, rfl⟩; exact ⟨t, ⟨h1, h2⟩, rfl⟩
theorem sts_iff {P : List Int} (hp : ParOk P) {x : Nat} (s : List Int) : ∀ k, x + 1 + k ≤ P.length →
    (s ∈ stsTo P x k ↔ ∃ i : Nat → Bool, (∀ z, i z = true → endB P z = false) ∧ s = rL P i x (x + 1 + k))
  | 0, _ => by
    rw [stsTo, List.mem_singleton]
    constructor
    · rintro rfl
      exact ⟨fun _ => false, (fun _ h => absurd h (by simp)), (rL_start _ _ _).symm⟩
    · rintro ⟨i, _, rfl⟩
      exact rL_start _ _ _
  | k + 1, hk => by
    have ih := fun t => sts_iff (x := x) hp t k (by omega)
    obtain ⟨p, hpy, hlt⟩ := par_of hp (show x < x + 1 + k by omega) (by omega)
    constructor
    · intro h
      have key : (s ∈ stsTo P x k) ∨ (endB P (x + 1 + k) = false ∧ ∃ t ∈ stsTo P x k, (p : Int) ∈ t ∧ s = t ++ [((x + 1 + k : Nat) : Int)]) := by
        rw [stsTo] at h
        split at h
        · exact .inl h
        · next he =>
          rcases List.mem_append.1 h with h | h
          · exact .inl h
          · rw [hpy] at h
            exact .inr ⟨by simpa using he, mem_stsIn.1 h⟩
      rcases key with h | ⟨he, t, ht, hpt, rfl⟩
      · obtain ⟨i, hi, rfl⟩ := (ih s).1 h
        refine ⟨fun z => i z && decide (z < x + 1 + k), fun z hz => hi z (by simp only [Bool.and_eq_true] at hz; exact hz.1), ?_⟩
        rw [show x + 1 + (k + 1) = (x + 1 + k) + 1 by omega, rL_no]
        · refine rL_congr fun y hy => rch_congr hp (by omega) fun z _ hz _ => ?_
          simp only [decide_eq_true (show z < x + 1 + k by omega), Bool.and_true]
        · rw [rch_step hpy hlt (by omega)]
          simp
      · obtain ⟨i, hi, rfl⟩ := (ih t).1 ht
        obtain ⟨q, hq, hr, hqe⟩ := mem_rL.1 hpt
        obtain rfl : p = q := by omega
        refine ⟨fun z => if z = x + 1 + k then true else i z, fun z hz => ?_, ?_⟩
        · by_cases hze : z = x + 1 + k
          · rw [hze]; exact he
          · exact hi z (by simpa [hze] using hz)
        · have hc : ∀ y, y < x + 1 + k → rch P i x y = rch P (fun z => if z = x + 1 + k then true else i z) x y := fun y hy => rch_congr hp (by omega) fun z _ hz _ => by
            simp only [if_neg (show ¬ z = x + 1 + k by omega)]
          rw [show x + 1 + (k + 1) = (x + 1 + k) + 1 by omega, rL_yes]
          · rw [rL_congr hc]
          · rw [rch_step hpy hlt (by omega), ← hc p hq, hr]
            simp
    · rintro ⟨i, hi, rfl⟩
      have hm : rL P i x (x + 1 + k) ∈ stsTo P x k := (ih _).2 ⟨i, hi, rfl⟩
      rw [stsTo, show x + 1 + (k + 1) = (x + 1 + k) + 1 by omega]
      rcases Bool.eq_false_or_eq_true (rch P i x (x + 1 + k)) with hr | hr
      · rw [rL_yes hr]
        have h1 := hi _ (rch_in hr (by omega))
        rw [h1, if_neg (by simp)]
        refine List.mem_append.2 (.inr (mem_stsIn.2 ⟨_, hm, ?_, rfl⟩))
        rw [rch_step hpy hlt (by omega), Bool.and_eq_true] at hr
        exact mem_rL.2 ⟨p, hlt, hr.2, hpy⟩
      · rw [rL_no hr]
        split
        · exact hm
        · exact List.mem_append.2 (.inl hm)
/-- The sum over a set's nodes. -/
theorem sum_rL (P : List Int) (i : Nat → Bool) (x : Nat) (f : Nat → Int) : ∀ k, ((rL P i x k).map fun y => f y.toNat).sum = sN (fun y => if rch P i x y = true then f y else 0) k
  | 0 => rfl
  | k + 1 => by
    rw [sN]
    rcases Bool.eq_false_or_eq_true (rch P i x k) with h | h
    · rw [rL_yes h, if_pos h, List.map_append, List.sum_append, sum_rL P i x f k]; simp
    · rw [rL_no h, if_neg (by rw [h]; simp), sum_rL P i x f k]; omega
/-- The sets of an inner node. -/
theorem mem_sts {P : List Int} (hp : ParOk P) {x : Nat} (hx : x < P.length) (he : endB P x = false) (s : List Int) : s ∈ sts P x ↔ ∃ i : Nat → Bool, (∀ z, i z = true → endB P z = false) ∧ s = rL P i x P.length := by
  rw [sts, he, if_neg (by simp), sts_iff hp s _ (by omega), show x + 1 + (P.length - 1 - x) = P.length by omega]
theorem sts_pos {P : List Int} {x : Nat} (he : endB P x = false) : 0 < (sts P x).length := by
  rw [sts, he, if_neg (by simp)]
  exact stsTo_pos _ _ _
theorem sts_len {P : List Int} (h9 : P.length ≤ 9) (x : Nat) : (sts P x).length ≤ 256 := by
  rw [sts]
  split
  · exact Nat.zero_le _
  · exact Nat.le_trans (stsTo_len _ _ _) (Nat.pow_le_pow_right (by decide) (show P.length - 1 - x ≤ 8 by omega))

theorem ArmOk.sum180 {P W F : List Int} (h : ArmOk P W F) (i : Nat) : 0 ≤ nth (gath P W) i ∧ nth (gath P W) i ≤ 180 := by
  have h1 := gath_ok h.tree.par h.tree.len (fun i => (h.tree.w0 i).1) (by have := h.tree.len; have := h.tree.n1; omega) i
  have h2 : sm W ≤ 20 * (W.length : Int) := sm_le fun i => (h.tree.w0 i).2
  have := h.tree.len
  have := h.n9
  omega
theorem pw_mix {a b : Int} (h1 : 1 ≤ a) (hab : a < b) (h4 : b ≤ 4) {d : Nat} (hd : d ≤ 4) : 0 ≤ pw a d * pw b (4 - d) ∧ pw a d * pw b (4 - d) ≤ 256 := by
  obtain rfl | rfl | rfl : a = 1 ∨ a = 2 ∨ a = 3 := by omega
  all_goals obtain rfl | rfl | rfl : b = 2 ∨ b = 3 ∨ b = 4 := by omega
  all_goals obtain rfl | rfl | rfl | rfl | rfl : d = 0 ∨ d = 1 ∨ d = 2 ∨ d = 3 ∨ d = 4 := by omega
  all_goals decide
/-- A node's part in the time of playing from x on, as the program scales it. -/
def wtP (P W : List Int) (a b : Int) (x y : Nat) : Int := nth (gath P W) y * pw a (dpN P y - dpN P x) * pw b (4 - (dpN P y - dpN P x))
theorem dpN_four {P W F : List Int} (h : ArmOk P W F) {x : Nat} (hx : x < P.length) : dpN P x ≤ 4 := by
  have := h.depth hx
  unfold dpN
  omega
theorem wtP_bd {P W F : List Int} (h : ArmOk P W F) {a b : Int} (h1 : 1 ≤ a) (hab : a < b) (h4 : b ≤ 4) {x y : Nat} (hy : y < P.length) : 0 ≤ wtP P W a b x y ∧ wtP P W a b x y ≤ 46080 := by
  have hm := pw_mix h1 hab h4 (d := dpN P y - dpN P x) (by have := dpN_four h hy; omega)
  have hs := h.sum180 y
  rw [wtP, Int.mul_assoc]
  exact mul_bd _ _ 180 256 hs.1 hs.2 hm.1 hm.2
def gnT (P W F : List Int) (a b : Int) (x : Nat) (s : List Int) (k : Nat) : Int := ((s.take k).map fun y => wtP P W a b x y.toNat * nth F y.toNat).sum
def tmT (P W : List Int) (a b : Int) (x : Nat) (s : List Int) (k : Nat) : Int := ((s.take k).map fun y => wtP P W a b x y.toNat).sum
theorem gnT_zero (P W F : List Int) (a b : Int) (x : Nat) (s : List Int) : gnT P W F a b x s 0 = 0 := by simp [gnT]
theorem tmT_zero (P W : List Int) (a b : Int) (x : Nat) (s : List Int) : tmT P W a b x s 0 = 0 := by simp [tmT]
theorem gnT_succ {P W F : List Int} {a b : Int} {x : Nat} {s : List Int} {k : Nat} (hk : k < s.length) : gnT P W F a b x s (k + 1) = gnT P W F a b x s k + wtP P W a b x (nth s k).toNat * nth F (nth s k).toNat := by
  unfold gnT
  rw [List.take_succ_eq_append_getElem hk, List.map_append, List.sum_append, ← nth_eq hk]
  simp
theorem tmT_succ {P W : List Int} {a b : Int} {x : Nat} {s : List Int} {k : Nat} (hk : k < s.length) : tmT P W a b x s (k + 1) = tmT P W a b x s k + wtP P W a b x (nth s k).toNat := by
  unfold tmT
  rw [List.take_succ_eq_append_getElem hk, List.map_append, List.sum_append, ← nth_eq hk]
  simp
theorem ArmOk.fb {P W F : List Int} (h : ArmOk P W F) (x : Nat) : -99 ≤ nth F x ∧ nth F x ≤ 99 := by
  rcases Nat.lt_or_ge x F.length with hx | hx
  · exact allB_nth h.fees hx
  · rw [nth_big hx]; omega
theorem wtF_bd {P W F : List Int} (h : ArmOk P W F) {a b : Int} (h1 : 1 ≤ a) (hab : a < b) (h4 : b ≤ 4) {x y : Nat} (hy : y < P.length) : -4561920 ≤ wtP P W a b x y * nth F y ∧ wtP P W a b x y * nth F y ≤ 4561920 := by
  have := mulAbs (A := 99) (B := 46080) (h.fb y) (wtP_bd h h1 hab h4 (x := x) hy) (by decide)
  rw [Int.mul_comm]
  omega
section
variable {P W F : List Int} {a b : Int} {x : Nat} {s : List Int}
theorem gnT_bd (h : ArmOk P W F) (h1 : 1 ≤ a) (hab : a < b) (h4 : b ≤ 4) (hm : ∀ k, k < s.length → (nth s k).toNat < P.length) : ∀ k, k ≤ s.length → -(4561920 * (k : Int)) ≤ gnT P W F a b x s k ∧ gnT P W F a b x s k ≤ 4561920 * (k : Int)
  | 0, _ => by rw [gnT_zero]; omega
  | k + 1, hk => by
    have ih := gnT_bd h h1 hab h4 hm k (by omega)
    have := wtF_bd h h1 hab h4 (x := x) (hm k (by omega))
    rw [gnT_succ (by omega)]
    omega
theorem tmT_bd (h : ArmOk P W F) (h1 : 1 ≤ a) (hab : a < b) (h4 : b ≤ 4) (hm : ∀ k, k < s.length → (nth s k).toNat < P.length) : ∀ k, k ≤ s.length → 0 ≤ tmT P W a b x s k ∧ tmT P W a b x s k ≤ 46080 * (k : Int)
  | 0, _ => by rw [tmT_zero]; omega
  | k + 1, hk => by
    have ih := tmT_bd h h1 hab h4 hm k (by omega)
    have := wtP_bd h h1 hab h4 (x := x) (hm k (by omega))
    rw [tmT_succ (by omega)]
    omega
end
/-- All gain and all time of a set. -/
def gnA (P W F : List Int) (a b : Int) (x : Nat) (s : List Int) : Int := gnT P W F a b x s s.length
def tmA (P W : List Int) (a b : Int) (x : Nat) (s : List Int) : Int := tmT P W a b x s s.length
theorem gnA_rL {P W F : List Int} {a b : Int} {x : Nat} (i : Nat → Bool) : gnA P W F a b x (rL P i x P.length) = sN (fun y => if rch P i x y = true then wtP P W a b x y * nth F y else 0) P.length := by
  unfold gnA gnT
  rw [List.take_length]
  exact sum_rL P i x (fun y => wtP P W a b x y * nth F y) P.length
theorem tmA_rL {P W : List Int} {a b : Int} {x : Nat} (i : Nat → Bool) : tmA P W a b x (rL P i x P.length) = sN (fun y => if rch P i x y = true then wtP P W a b x y else 0) P.length := by
  unfold tmA tmT
  rw [List.take_length]
  exact sum_rL P i x (fun y => wtP P W a b x y) P.length
theorem pw_add (b : Int) (m n : Nat) : pw b (m + n) = pw b m * pw b n := by
  induction n with
  | zero => show pw b m = pw b m * 1; omega
  | succ n ih => rw [show m + (n + 1) = (m + n) + 1 by omega, pw_succ, pw_succ, ih, Int.mul_assoc]
theorem pw_pos1 {b : Int} (hb : 1 ≤ b) (k : Nat) : 1 ≤ pw b k := by
  induction k with
  | zero => exact Int.le_refl _
  | succ k ih =>
    have := Int.mul_le_mul ih hb (by decide) (by omega)
    rw [pw_succ]
    omega
/-- The height. -/
def hN (P : List Int) : Nat := (hgt P).toNat
theorem unitX_eq {P W F : List Int} (h : ArmOk P W F) {b : Int} {y : Nat} (hy : y < P.length) : unitX P W b y = nth (gath P W) y * pw b (hN P - dpN P y) := by
  have := hgt_dep h hy
  have := dep_bd P y
  unfold unitX hN dpN
  rw [show (hgt P - nth (dep P) y).toNat = (hgt P).toNat - (nth (dep P) y).toNat by omega]
theorem dpN_le {P W F : List Int} (h : ArmOk P W F) {y : Nat} (hy : y < P.length) : dpN P y ≤ hN P ∧ hN P ≤ 4 := by
  have := hgt_dep h hy
  have := dep_bd P y
  have := h.h4
  unfold hN dpN
  omega
/-- How the program's scale and the reference's differ. -/
def kP (P : List Int) (b : Int) (x : Nat) : Int := pw b (4 - hN P + dpN P x)
theorem wtP_eq {P W F : List Int} (h : ArmOk P W F) {a b : Int} {x y : Nat} (hx : x < P.length) (hy : y < P.length) (hd : dpN P x ≤ dpN P y) :
    wtP P W a b x y = kP P b x * (pw a (dpN P y - dpN P x) * unitX P W b y) := by
  have h1 := dpN_le h hy
  have h2 := dpN_le h hx
  rw [unitX_eq h hy, wtP, kP, show 4 - (dpN P y - dpN P x) = (4 - hN P + dpN P x) + (hN P - dpN P y) by omega, pw_add]
  grind
/-- What a set's gain and time come to, as the reference scales them. -/
def gnR (P W F : List Int) (a b : Int) (i : Nat → Bool) (x : Nat) : Int := tot P a i (fun y => nth F y * unitX P W b y) x
def tmR (P W : List Int) (a b : Int) (i : Nat → Bool) (x : Nat) : Int := tot P a i (fun y => unitX P W b y) x
theorem gnA_eq {P W F : List Int} (h : ArmOk P W F) {a b : Int} {x : Nat} (hx : x < P.length) (i : Nat → Bool) : gnA P W F a b x (rL P i x P.length) = kP P b x * gnR P W F a b i x := by
  rw [gnA_rL, gnR, tot, ← sN_mul]
  refine sN_congr fun y hy => ?_
  by_cases hr : rch P i x y = true
  · rw [if_pos hr, if_pos hr, wtP_eq h hx hy (rch_dep h.tree.par hy hr)]
    grind
  · rw [if_neg hr, if_neg hr, Int.mul_zero]
theorem tmA_eq {P W F : List Int} (h : ArmOk P W F) {a b : Int} {x : Nat} (hx : x < P.length) (i : Nat → Bool) : tmA P W a b x (rL P i x P.length) = kP P b x * tmR P W a b i x := by
  rw [tmA_rL, tmR, tot, ← sN_mul]
  refine sN_congr fun y hy => ?_
  by_cases hr : rch P i x y = true
  · rw [if_pos hr, if_pos hr, wtP_eq h hx hy (rch_dep h.tree.par hy hr)]
  · rw [if_neg hr, if_neg hr, Int.mul_zero]
theorem gat_up {P xs : List Int} (hp : ParOk P) (hl : xs.length = P.length) (hn : ∀ i, 0 ≤ nth xs i) (i m : Nat) : ∀ k, m + k < xs.length → nth (gat P xs m) i ≤ nth (gat P xs (m + k)) i
  | 0, _ => Int.le_refl _
  | k + 1, h => by
    have ih := gat_up hp hl hn i m k (by omega)
    have hnn := (gat_ok hp hl hn (m + k) (by omega)).1
    rw [show m + (k + 1) = (m + k) + 1 by omega, gat]
    generalize (nth P (xs.length - 1 - (m + k))).toNat = p
    by_cases hi : p = i
    · subst hi
      rcases Nat.lt_or_ge p (gat P xs (m + k)).length with hp' | hp'
      · rw [nth_set_self hp']
        have := (hnn (xs.length - 1 - (m + k))).1
        omega
      · rw [List.set_eq_of_length_le hp']
        exact ih
    · rw [nth_set_ne hi]
      exact ih
/-- Every node's sum is greater than 0. -/
theorem gath_pos {P W : List Int} (h : TreeOk P W) {x : Nat} (hx : x < P.length) : 1 ≤ nth (gath P W) x := by
  have hl := h.len
  have hn := fun i => (h.w0 i).1
  have key : ∀ m, m < W.length → ∀ y, W.length - 1 - m ≤ y → y < P.length → 1 ≤ nth (gat P W m) y := by
    intro m
    induction m using Nat.strongRecOn with
    | _ m ih =>
      intro hm y hy hyl
      cases he : endB P y
      · have hk : kids P (y : Int) ≠ [] := fun h' => by rw [(kids_nil y).1 h'] at he; cases he
        obtain ⟨z, hz⟩ := List.exists_mem_of_ne_nil _ hk
        obtain ⟨j, hj, hpj, rfl⟩ := mem_kidTo.1 hz
        have hlt := (dpN_kid h.par hj hpj).1
        have h1 := ih (W.length - 1 - j) (by omega) (by omega) j (by omega) hj
        have h2 := (gat_ok h.par hl hn (W.length - 1 - j) (by omega)).1 y
        have h3 : nth (gat P W (W.length - 1 - j + 1)) y = nth (gat P W (W.length - 1 - j)) y + nth (gat P W (W.length - 1 - j)) j := by
          rw [gat, show W.length - 1 - (W.length - 1 - j) = j by omega, hpj, Int.toNat_natCast, nth_set_self (by rw [gat_length]; omega)]
        have h4 := gat_up h.par hl hn y (W.length - 1 - j + 1) (m - (W.length - 1 - j + 1)) (by omega)
        rw [show W.length - 1 - j + 1 + (m - (W.length - 1 - j + 1)) = m by omega] at h4
        omega
      · have h1 := h.wt y hyl
        rw [if_pos he] at h1
        have h2 := gat_up h.par hl hn y 0 m (by omega)
        rw [Nat.zero_add] at h2
        have e : gat P W 0 = W := rfl
        rw [e] at h2
        omega
  exact key _ (by omega) x (by omega) hx
theorem unitX_pos {P W F : List Int} (h : ArmOk P W F) {b : Int} (hb : 1 ≤ b) {y : Nat} (hy : y < P.length) : 1 ≤ unitX P W b y := by
  have h1 := gath_pos h.tree hy
  have h2 := pw_pos1 hb (hN P - dpN P y)
  rw [unitX_eq h hy]
  have := Int.mul_le_mul h1 h2 (by decide) (by omega)
  omega
theorem sN_nn {f : Nat → Int} {n : Nat} (h : ∀ i, i < n → 0 ≤ f i) : 0 ≤ sN f n := by
  have := sN_le (f := fun _ => 0) (g := f) (n := n) h
  rw [sN_zero fun _ _ => rfl] at this
  exact this
theorem sN_ge {f : Nat → Int} {k : Nat} : ∀ {n}, k < n → (∀ i, i < n → 0 ≤ f i) → f k ≤ sN f n
  | 0, h, _ => by omega
  | n + 1, h, h0 => by
    rw [sN]
    rcases Nat.eq_or_lt_of_le (Nat.lt_succ_iff.1 h) with rfl | h'
    · have := sN_nn (n := k) fun i hi => h0 i (by omega); omega
    · have := sN_ge h' fun i hi => h0 i (by omega)
      have := h0 n (by omega)
      omega
theorem tmR_pos {P W F : List Int} (h : ArmOk P W F) {a b : Int} (ha : 1 ≤ a) (hb : 1 ≤ b) {x : Nat} (hx : x < P.length) (i : Nat → Bool) : 1 ≤ tmR P W a b i x := by
  have h1 := unitX_pos h hb hx
  have key : (if rch P i x x = true then pw a (dpN P x - dpN P x) * unitX P W b x else 0) ≤ tmR P W a b i x := sN_ge (f := fun y => if rch P i x y = true then pw a (dpN P y - dpN P x) * unitX P W b y else 0) hx fun y hy => by
    show 0 ≤ ite _ _ _
    split
    · exact Int.mul_nonneg (pw_pos (by omega) _) (by have := unitX_pos h hb hy; omega)
    · exact Int.le_refl _
  have e : pw a 0 = 1 := rfl
  rw [if_pos rch_self, Nat.sub_self, e, Int.one_mul] at key
  exact Int.le_trans h1 key
theorem kP_pos {P : List Int} {b : Int} (hb : 1 ≤ b) (x : Nat) : 1 ≤ kP P b x := pw_pos1 hb _

section
variable {P W F : List Int} {a b : Int}
/-- What a set's gain by its time comes to. -/
def prS (P W F : List Int) (a b : Int) (x : Nat) (s : List Int) : Int × Int := (cutT (gnA P W F a b x s) (tmA P W a b x s), cutB (gnA P W F a b x s) (tmA P W a b x s))
def prI (P W F : List Int) (a b : Int) (i : Nat → Bool) (x : Nat) : Int × Int := (cutT (gnR P W F a b i x) (tmR P W a b i x), cutB (gnR P W F a b i x) (tmR P W a b i x))
/-- The arm, a and b are right. -/
structure ArmAB (P W F : List Int) (a b : Int) : Prop where
  arm : ArmOk P W F
  a1 : 1 ≤ a
  ab : a < b
  b4 : b ≤ 4
theorem armAB_iff : (armB P W F && discB a b) = true ↔ ArmAB P W F a b := by
  simp only [discB, Bool.and_eq_true, decide_eq_true_eq, armB_iff]
  constructor
  · rintro ⟨h1, ⟨h2, h3⟩, h4⟩; exact ⟨h1, h2, h3, h4⟩
  · rintro ⟨h1, h2, h3, h4⟩; exact ⟨h1, ⟨h2, h3⟩, h4⟩
theorem prS_rL (h : ArmAB P W F a b) {x : Nat} (hx : x < P.length) (i : Nat → Bool) : prS P W F a b x (rL P i x P.length) = prI P W F a b i x := by
  have h1 := tmR_pos h.arm h.a1 (b := b) (by have := h.a1; have := h.ab; omega) hx i
  have h2 := kP_pos (P := P) (b := b) (by have := h.a1; have := h.ab; omega) x
  have h3 := Int.mul_le_mul h2 h1 (by decide) (by omega)
  have := cut_congr (a := gnA P W F a b x (rL P i x P.length)) (b := tmA P W a b x (rL P i x P.length)) (c := gnR P W F a b i x) (d := tmR P W a b i x) (by rw [tmA_eq h.arm hx]; omega) (by omega) (by
    rw [gnA_eq h.arm hx, tmA_eq h.arm hx]
    grind)
  exact Prod.ext this.1 this.2
theorem rL_len (i : Nat → Bool) (x : Nat) : ∀ k, (rL P i x k).length ≤ k
  | 0 => Nat.le_refl _
  | k + 1 => by
    have := rL_len i x k
    rcases Bool.eq_false_or_eq_true (rch P i x k) with hr | hr
    · rw [rL_yes hr, List.length_append]; simp; omega
    · rw [rL_no hr]; omega
theorem rL_at (i : Nat → Bool) (x k j : Nat) (hj : j < (rL P i x k).length) : ∃ y : Nat, nth (rL P i x k) j = (y : Int) ∧ y < k ∧ rch P i x y = true := by
  have := List.getElem_mem hj
  rw [← nth_eq hj] at this
  obtain ⟨y, h1, h2, h3⟩ := mem_rL.1 this
  exact ⟨y, h3, h1, h2⟩
theorem rL_in (i : Nat → Bool) (x k j : Nat) (hj : j < (rL P i x k).length) : (nth (rL P i x k) j).toNat < k := by
  obtain ⟨y, h1, h2, _⟩ := rL_at i x k j hj
  rw [h1]
  omega
/-- The pair in lowest terms is a fraction. -/
theorem prI_fr (h : ArmAB P W F a b) {x : Nat} (hx : x < P.length) (i : Nat → Bool) : frP (prI P W F a b i x) = true := by
  rw [← prS_rL h hx i]
  have hl := rL_len (P := P) i x P.length
  have h9 := h.arm.n9
  have hg := gnT_bd h.arm h.a1 h.ab h.b4 (x := x) (s := rL P i x P.length) (rL_in i x P.length) _ (Nat.le_refl _)
  have ht := tmT_bd h.arm h.a1 h.ab h.b4 (x := x) (s := rL P i x P.length) (rL_in i x P.length) _ (Nat.le_refl _)
  have h1 := tmR_pos h.arm h.a1 (b := b) (by have := h.a1; have := h.ab; omega) hx i
  have h2 := kP_pos (P := P) (b := b) (by have := h.a1; have := h.ab; omega) x
  have h3 := Int.mul_le_mul h2 h1 (by decide) (by omega)
  have hp : 0 < tmA P W a b x (rL P i x P.length) := by rw [tmA_eq h.arm hx]; omega
  have hT := cutT_bd (a := gnA P W F a b x (rL P i x P.length)) hp (M := 1000000000) (by unfold gnA; omega) (by unfold gnA; omega)
  have hB := cutB_le (a := gnA P W F a b x (rL P i x P.length)) hp
  have hB1 := cutB_pos (a := gnA P W F a b x (rL P i x P.length)) hp
  refine frP_iff.2 ⟨hT, ⟨by show (1 : Int) ≤ cutB _ _; omega, ?_⟩, gI_cut hp⟩
  show cutB _ _ ≤ 1000000
  have : tmA P W a b x (rL P i x P.length) ≤ 46080 * ((rL P i x P.length).length : Int) := ht.2
  omega
theorem fr_pos {f : Int × Int} (h : frP f = true) : 0 < f.2 := by have := (frP_iff.1 h).2.1; omega
/-- No end. -/
def neB (P : List Int) (z : Nat) : Bool := !endB P z
theorem neB_iff {z : Nat} : neB P z = true ↔ endB P z = false := by simp [neB]
/-- The index of a node. -/
def idxL (P W F : List Int) (a b : Int) (x : Nat) : List (Int × Int) := (sts P x).map (prS P W F a b x)
def idxP (P W F : List Int) (a b : Int) (x : Nat) : Int × Int := if endB P x then (0, 1) else topOf true (idxL P W F a b x)
theorem idx_mem (h : ArmAB P W F a b) {x : Nat} (hx : x < P.length) (he : endB P x = false) : ∃ i : Nat → Bool, (∀ z, i z = true → neB P z = true) ∧ idxP P W F a b x = prI P W F a b i x := by
  rw [idxP, he, if_neg (by simp)]
  have hm := topOf_mem (up := true) (l := idxL P W F a b x) (by rw [idxL, List.length_map]; exact sts_pos he)
  obtain ⟨s, hs, e⟩ := List.mem_map.1 hm
  obtain ⟨i, hi, rfl⟩ := (mem_sts h.arm.tree.par hx he s).1 hs
  exact ⟨i, fun z hz => neB_iff.2 (hi z hz), by rw [← e, prS_rL h hx]⟩
theorem idxL_fr (h : ArmAB P W F a b) {x : Nat} (hx : x < P.length) (he : endB P x = false) : ∀ f ∈ idxL P W F a b x, frP f = true := by
  intro f hf
  obtain ⟨s, hs, rfl⟩ := List.mem_map.1 hf
  obtain ⟨i, hi, rfl⟩ := (mem_sts h.arm.tree.par hx he s).1 hs
  rw [prS_rL h hx]
  exact prI_fr h hx i
theorem idx_max (h : ArmAB P W F a b) {x : Nat} (hx : x < P.length) (he : endB P x = false) {i : Nat → Bool} (hi : ∀ z, i z = true → neB P z = true) : lessP (idxP P W F a b x) (prI P W F a b i x) = false := by
  have hm : prI P W F a b i x ∈ idxL P W F a b x := List.mem_map.2 ⟨_, (mem_sts h.arm.tree.par hx he _).2 ⟨i, fun z hz => neB_iff.1 (hi z hz), rfl⟩, prS_rL h hx i⟩
  have := topOf_max (up := true) (fun f hf => fr_pos (idxL_fr h hx he f hf)) hm
  rw [idxP, he, if_neg (by simp)]
  exact this
theorem idx_fr (h : ArmAB P W F a b) {x : Nat} (hx : x < P.length) : frP (idxP P W F a b x) = true := by
  cases he : endB P x
  · obtain ⟨i, _, e⟩ := idx_mem h hx he
    rw [e]
    exact prI_fr h hx i
  · rw [idxP, he, if_pos rfl]
    decide
/-- The greatest gain less p by q for each unit of time. -/
def lsP (P W F : List Int) (a b p q : Int) (x : Nat) : Int := lsV P a (neB P) (fun y => (q * nth F y - p) * unitX P W b y) P.length x
theorem tot_lin (i : Nat → Bool) (p q : Int) (x : Nat) : tot P a i (fun y => (q * nth F y - p) * unitX P W b y) x = q * gnR P W F a b i x - p * tmR P W a b i x := by
  have e : tot P a i (fun y => (q * nth F y - p) * unitX P W b y) x = q * gnR P W F a b i x + (-p) * tmR P W a b i x := by
    unfold gnR tmR tot
    rw [← sN_mul, ← sN_mul, ← sN_add]
    refine sN_congr fun y hy => ?_
    by_cases hr : rch P i x y = true
    · simp only [if_pos hr]; grind
    · simp only [if_neg hr]; omega
  rw [e]
  grind
theorem less_no {f g : Int × Int} : lessP f g = false ↔ g.1 * f.2 ≤ f.1 * g.2 := by
  simp [lessP]
/-- A quotient's threshold, told by gain and time. -/
theorem prI_ge (h : ArmAB P W F a b) {x : Nat} (hx : x < P.length) (i : Nat → Bool) {p q : Int} : p * (prI P W F a b i x).2 ≤ (prI P W F a b i x).1 * q ↔ 0 ≤ q * gnR P W F a b i x - p * tmR P W a b i x := by
  have h1 := tmR_pos h.arm h.a1 (b := b) (by have := h.a1; have := h.ab; omega) hx i
  have hm := cut_mul (gnR P W F a b i x) (tmR P W a b i x)
  have hg := gI_pos (a := gnR P W F a b i x) (b := tmR P W a b i x) (by omega)
  show p * cutB _ _ ≤ cutT _ _ * q ↔ _
  generalize cutT (gnR P W F a b i x) (tmR P W a b i x) = t at *
  generalize cutB (gnR P W F a b i x) (tmR P W a b i x) = u at *
  generalize gI (gnR P W F a b i x) (tmR P W a b i x) = g at *
  rw [← hm.1, ← hm.2]
  have e : q * (t * g) - p * (u * g) = (t * q - p * u) * g := by grind
  rw [e]
  constructor
  · intro h'
    exact Int.mul_nonneg (by omega) (by omega)
  · intro h'
    rcases Int.lt_or_le (t * q - p * u) 0 with hn | hn
    · have := Int.mul_neg_of_neg_of_pos hn hg
      omega
    · omega
theorem lsP_star (h : ArmAB P W F a b) {x : Nat} (hx : x < P.length) (p q : Int) : lsP P W F a b p q x = q * gnR P W F a b (fun z => neB P z && decide (0 ≤ lsP P W F a b p q z)) x - p * tmR P W a b (fun z => neB P z && decide (0 ≤ lsP P W F a b p q z)) x := by
  rw [← tot_lin, ← gnV_tot h.arm.tree.par a _ _ P.length x hx (by omega)]
  exact (gnV_eq _ P.length _ h.arm.tree.par (fun z _ => rfl) (fun n z hz hn => lsV_fuel h.arm.tree.par n P.length z hz hn (by omega)) P.length x hx (by omega)).symm
theorem lsP_ge (h : ArmAB P W F a b) {x : Nat} (hx : x < P.length) (p q : Int) {i : Nat → Bool} (hi : ∀ z, i z = true → neB P z = true) : q * gnR P W F a b i x - p * tmR P W a b i x ≤ lsP P W F a b p q x := by
  rw [← tot_lin, ← gnV_tot h.arm.tree.par a _ _ P.length x hx (by omega)]
  exact gnV_le (by have := h.a1; omega) hi _ _ _
/-- An index is at least a quotient just if there is a set that gains no less. -/
theorem lsP_iff (h : ArmAB P W F a b) {x : Nat} (hx : x < P.length) (he : endB P x = false) {p q : Int} (hq : 0 < q) : 0 ≤ lsP P W F a b p q x ↔ p * (idxP P W F a b x).2 ≤ (idxP P W F a b x).1 * q := by
  constructor
  · intro h0
    have h1 := lsP_star h hx p q
    have h2 := (prI_ge h hx (fun z => neB P z && decide (0 ≤ lsP P W F a b p q z)) (p := p) (q := q)).2 (by omega)
    have h3 := less_no.1 (idx_max h hx he (i := fun z => neB P z && decide (0 ≤ lsP P W F a b p q z)) fun z hz => by simp only [Bool.and_eq_true] at hz; exact hz.1)
    have f1 := fr_pos (prI_fr h hx (fun z => neB P z && decide (0 ≤ lsP P W F a b p q z)))
    have f2 := fr_pos (idx_fr h hx)
    exact le_trans3 f1 (by omega) (by omega) h2 h3
  · intro h0
    obtain ⟨i, hi, e⟩ := idx_mem h hx he
    rw [e] at h0
    have := (prI_ge h hx i).1 h0
    have := lsP_ge h hx p q hi
    omega
/-- A node is below another one, or it. -/
def undB (P : List Int) (x y : Nat) : Bool := rch P (fun _ => true) x y
theorem rch_und (hp : ParOk P) {i : Nat → Bool} {x y : Nat} (hy : y < P.length) (hr : rch P i x y = true) : undB P x y = true := by
  induction y using Nat.strongRecOn with
  | _ y ih =>
    rcases Nat.eq_or_lt_of_le (rch_le hr) with rfl | h1
    · exact rch_self
    · obtain ⟨q, hq, hlt⟩ := par_of hp h1 hy
      rw [rch_step hq hlt h1, Bool.and_eq_true] at hr
      unfold undB
      rw [rch_step hq hlt h1]
      exact ih q hlt (by omega) hr.2
/-- The reference's set: nodes of no less an index than y's. -/
def inY (P : List Int) (f : Nat → Int × Int) (x y z : Nat) : Bool := decide (x < z) && (neB P z && !lessP (f z) (f y))
/-- The reference's quotients at a node. -/
def rfTo (P W F : List Int) (a b : Int) (f : Nat → Int × Int) (x k : Nat) : List (Int × Int) :=
  (nth F x, 1) :: ((List.range k).filter fun y => decide (x < y) && (undB P x y && neB P y)).map fun y => prI P W F a b (inY P f x y) x
def rfL (P W F : List Int) (a b : Int) (f : Nat → Int × Int) (x : Nat) : List (Int × Int) := rfTo P W F a b f x P.length
theorem gnR_none {x : Nat} (_hp : ParOk P) (hx : x < P.length) {i : Nat → Bool} (hi : ∀ y, y < P.length → rch P i x y = true → y = x) (v : Nat → Int) : tot P a i v x = v x := by
  unfold tot
  rw [sN_one hx]
  · rw [if_pos rch_self, Nat.sub_self]
    show 1 * v x = v x
    omega
  · intro y hy hne
    exact if_neg fun hr => hne (hi y hy hr)
theorem prI_none (h : ArmAB P W F a b) {x : Nat} (hx : x < P.length) {i : Nat → Bool} (hi : ∀ y, y < P.length → rch P i x y = true → y = x) : prI P W F a b i x = (nth F x, 1) := by
  have hu := unitX_pos h.arm (b := b) (by have := h.a1; have := h.ab; omega) hx
  have e1 : gnR P W F a b i x = nth F x * unitX P W b x := gnR_none h.arm.tree.par hx hi _
  have e2 : tmR P W a b i x = unitX P W b x := gnR_none h.arm.tree.par hx hi _
  have := cut_congr (a := nth F x * unitX P W b x) (b := unitX P W b x) (c := nth F x) (d := 1) (by omega) (by decide) (by omega)
  have h1 := cut_one (nth F x)
  unfold prI
  rw [e1, e2]
  exact Prod.ext (this.1.trans h1.1) (this.2.trans h1.2)
theorem rch_false {x y : Nat} (_hp : ParOk P) (_hy : y < P.length) (hr : rch P (fun _ => false) x y = true) : y = x := by
  rcases Decidable.em (y = x) with h | h
  · exact h
  · have := rch_in hr h
    cases this
theorem prI_congr (_hp : ParOk P) {i i' : Nat → Bool} {x : Nat} (hr : ∀ y, y < P.length → rch P i x y = rch P i' x y) : prI P W F a b i x = prI P W F a b i' x := by
  have e : ∀ v, tot P a i v x = tot P a i' v x := fun v => by
    unfold tot
    exact sN_congr fun y hy => by rw [hr y hy]
  unfold prI gnR tmR
  rw [e, e]
theorem rf_mem (h : ArmAB P W F a b) {x : Nat} (hx : x < P.length) {f : Nat → Int × Int} {g : Int × Int} (hg : g ∈ rfL P W F a b f x) : ∃ i : Nat → Bool, (∀ z, i z = true → neB P z = true) ∧ g = prI P W F a b i x := by
  rw [rfL, rfTo, List.mem_cons] at hg
  rcases hg with rfl | hg
  · exact ⟨fun _ => false, (fun _ hz => absurd hz (by simp)), (prI_none h hx fun y hy hr => rch_false h.arm.tree.par hy hr).symm⟩
  · obtain ⟨y, _, rfl⟩ := List.mem_map.1 hg
    exact ⟨inY P f x y, fun z hz => by simp only [inY, Bool.and_eq_true] at hz; exact hz.2.1, rfl⟩
theorem rf_fr (h : ArmAB P W F a b) {x : Nat} (hx : x < P.length) {f : Nat → Int × Int} : ∀ g ∈ rfL P W F a b f x, frP g = true := by
  intro g hg
  obtain ⟨i, _, rfl⟩ := rf_mem h hx hg
  exact prI_fr h hx i
theorem rf_pos (f : Nat → Int × Int) (x : Nat) : 0 < (rfL P W F a b f x).length := by rw [rfL, rfTo]; simp
/-- The reference finds the index. -/
theorem rf_idx (h : ArmAB P W F a b) {x : Nat} (hx : x < P.length) (he : endB P x = false) {f : Nat → Int × Int} (hf : ∀ z, x < z → z < P.length → endB P z = false → f z = idxP P W F a b z) :
    topOf true (rfL P W F a b f x) = idxP P W F a b x := by
  have hp := h.arm.tree.par
  have hfr := idx_fr h hx
  obtain ⟨i0, hi0, e0⟩ := rf_mem h hx (topOf_mem (up := true) (rf_pos (P := P) (W := W) (F := F) (a := a) (b := b) f x))
  have hle : lessP (idxP P W F a b x) (topOf true (rfL P W F a b f x)) = false := by rw [e0]; exact idx_max h hx he hi0
  refine fr_eq (rf_fr h hx _ (topOf_mem (rf_pos f x))) hfr ?_
  refine bet_eq (up := false) ?_ ?_
  · show lessP (topOf true (rfL P W F a b f x)) (idxP P W F a b x) = false
    -- the set of all nodes whose index is no less
    have hq := fr_pos hfr
    generalize hpq : idxP P W F a b x = g at *
    have hls : 0 ≤ lsP P W F a b g.1 g.2 x := (lsP_iff h hx he hq).2 (by rw [hpq]; exact Int.le_refl _)
    have hst := lsP_star h hx g.1 g.2
    have hge := (prI_ge h hx (fun z => neB P z && decide (0 ≤ lsP P W F a b g.1 g.2 z)) (p := g.1) (q := g.2)).2 (by omega)
    have hin : prI P W F a b (fun z => neB P z && decide (0 ≤ lsP P W F a b g.1 g.2 z)) x ∈ rfL P W F a b f x := by
      generalize hI : (fun z => neB P z && decide (0 ≤ lsP P W F a b g.1 g.2 z)) = I at *
      have hIz : ∀ z, I z = true ↔ neB P z = true ∧ 0 ≤ lsP P W F a b g.1 g.2 z := fun z => by rw [← hI]; simp
      rcases Decidable.em (∃ y, y < P.length ∧ rch P I x y = true ∧ y ≠ x) with ⟨y0, hy0, hr0, hne0⟩ | hno
      · have hl : 0 < (((List.range P.length).filter fun y => rch P I x y && decide (y ≠ x)).map f).length := by
          rw [List.length_map]
          exact List.length_pos_of_mem (List.mem_filter.2 ⟨List.mem_range.2 hy0, by simp [hr0, hne0]⟩)
        have hm := topOf_mem (up := false) hl
        obtain ⟨y, hy, ey⟩ := List.mem_map.1 hm
        have hprop : ∀ z, z ∈ ((List.range P.length).filter fun y => rch P I x y && decide (y ≠ x)) → z < P.length ∧ rch P I x z = true ∧ z ≠ x ∧ x < z ∧ endB P z = false ∧ f z = idxP P W F a b z := by
          intro z hz
          simp only [List.mem_filter, List.mem_range, Bool.and_eq_true, decide_eq_true_eq] at hz
          have h1 := rch_le hz.2.1
          have h2 := neB_iff.1 ((hIz z).1 (rch_in hz.2.1 hz.2.2)).1
          exact ⟨hz.1, hz.2.1, hz.2.2, by omega, h2, hf z (by omega) hz.1 h2⟩
        obtain ⟨hyl, hyr, hyne, hxy, hye, hyf⟩ := hprop y hy
        have hmin : ∀ z, z ∈ ((List.range P.length).filter fun y => rch P I x y && decide (y ≠ x)) → lessP (f z) (f y) = false := by
          intro z hz
          rw [ey]
          refine topOf_max (up := false) (fun g hg => ?_) (List.mem_map.2 ⟨z, hz, rfl⟩)
          obtain ⟨u, hu, rfl⟩ := List.mem_map.1 hg
          obtain ⟨h1, _, _, _, _, h6⟩ := hprop u hu
          rw [h6]
          exact fr_pos (idx_fr h h1)
        have hyI := (hIz y).1 (rch_in hyr hyne)
        have hyg := (lsP_iff h hyl hye hq).1 hyI.2
        have hc : ∀ z, z < P.length → rch P I x z = rch P (inY P f x y) x z := by
          intro z hz
          refine rch_congr hp hz fun u hxu huz hor => ?_
          have hul : u < P.length := by omega
          rcases hor with hr | hr
          · have h1 := rch_in hr (by omega)
            rw [h1]
            simp only [inY, Bool.and_eq_true, Bool.not_eq_true', decide_eq_true_eq] at h1
            have h2 := neB_iff.1 h1.2.1
            refine (hIz u).2 ⟨h1.2.1, (lsP_iff h hul h2 hq).2 ?_⟩
            have h3 := less_no.1 h1.2.2
            rw [hf u hxu hul h2, hyf] at h3
            exact le_trans3 (fr_pos (idx_fr h hyl)) (by omega) (by have := fr_pos (idx_fr h hul); omega) hyg h3
          · have h1 := rch_in hr (by omega)
            rw [h1]
            have h2 := (hIz u).1 h1
            have h3 := hmin u (List.mem_filter.2 ⟨List.mem_range.2 hul, by simp [hr]; omega⟩)
            simp only [inY, decide_eq_true hxu, h2.1, h3]
            rfl
        rw [prI_congr hp hc, rfL, rfTo]
        refine List.mem_cons_of_mem _ (List.mem_map.2 ⟨y, List.mem_filter.2 ⟨List.mem_range.2 hyl, ?_⟩, rfl⟩)
        simp only [decide_eq_true hxy, rch_und hp hyl hyr, neB_iff.2 hye]
        rfl
      · rw [prI_none h hx fun y hy hr => Decidable.byContradiction fun hne => hno ⟨y, hy, hr, hne⟩, rfL, rfTo]
        exact List.mem_cons_self
    have hmx := topOf_max (up := true) (fun g hg => fr_pos (rf_fr h hx g hg)) hin
    have hmx' := less_no.1 (show lessP (topOf true (rfL P W F a b f x)) (prI P W F a b (fun z => neB P z && decide (0 ≤ lsP P W F a b g.1 g.2 z)) x) = false from hmx)
    refine less_no.2 (le_trans3 (fr_pos (prI_fr h hx _)) ?_ ?_ hge hmx')
    · omega
    · have := fr_pos (rf_fr h hx _ (topOf_mem (up := true) (rf_pos (P := P) (W := W) (F := F) (a := a) (b := b) f x))); omega
  · exact hle
end

section
variable {P W F : List Int} {a b : Int}
theorem unitX_46 (h : ArmOk P W F) (h0 : 0 ≤ b) (h4 : b ≤ 4) {y : Nat} (hy : y < P.length) : 0 ≤ unitX P W b y ∧ unitX P W b y ≤ 46080 := by
  have h1 := h.sum180 y
  have h2 := dpN_le h hy
  have h3 := pw_four h0 h4 (k := hN P - dpN P y) (by omega)
  rw [unitX_eq h hy]
  exact mul_bd _ _ 180 256 h1.1 h1.2 h3.1 h3.2
theorem ArmAB.b0 (h : ArmAB P W F a b) : 0 ≤ b := by have := h.a1; have := h.ab; omega
theorem ArmAB.a81 (h : ArmAB P W F a b) {x y : Nat} (hy : y < P.length) : 0 ≤ pw a (dpN P y - dpN P x) ∧ pw a (dpN P y - dpN P x) ≤ 81 := by
  have h2 := dpN_le h.arm hy
  exact pw_bd 3 4 81 (by decide) (by have := h.a1; omega) (by have := h.ab; have := h.b4; omega) (by decide) (by omega)
theorem tot_bd (h : ArmAB P W F a b) {v : Nat → Int} {M : Int} (hM : 0 ≤ M) (hv : ∀ y, y < P.length → -M ≤ v y ∧ v y ≤ M) (i : Nat → Bool) (x : Nat) : -(M * 81 * 9) ≤ tot P a i v x ∧ tot P a i v x ≤ M * 81 * 9 := by
  have h9 := h.arm.n9
  have := sN_bd (f := fun y => if rch P i x y = true then pw a (dpN P y - dpN P x) * v y else 0) (M := M * 81) (n := P.length) fun y hy => by
    show _ ≤ ite _ _ _ ∧ ite _ _ _ ≤ _
    split
    · have := mulAbs (hv y hy) (h.a81 (x := x) hy) hM
      rw [Int.mul_comm (pw a _)]
      exact this
    · omega
  have h2 : M * 81 * (P.length : Int) ≤ M * 81 * 9 := Int.mul_le_mul_of_nonneg_left (by omega) (by omega)
  unfold tot
  omega
theorem FU_bd (h : ArmAB P W F a b) {y : Nat} (hy : y < P.length) : -4561920 ≤ nth F y * unitX P W b y ∧ nth F y * unitX P W b y ≤ 4561920 := by
  have := mulAbs (A := 99) (B := 46080) (h.arm.fb y) (unitX_46 h.arm h.b0 h.b4 hy) (by decide)
  omega
theorem gnR_bd (h : ArmAB P W F a b) (i : Nat → Bool) (x : Nat) : -3325639680 ≤ gnR P W F a b i x ∧ gnR P W F a b i x ≤ 3325639680 := by
  have := tot_bd h (v := fun y => nth F y * unitX P W b y) (M := 4561920) (by decide) (fun y hy => FU_bd h hy) i x
  unfold gnR
  omega
theorem tmR_bd (h : ArmAB P W F a b) (i : Nat → Bool) (x : Nat) : -33592320 ≤ tmR P W a b i x ∧ tmR P W a b i x ≤ 33592320 := by
  have := tot_bd h (v := fun y => unitX P W b y) (M := 46080) (by decide) (fun y hy => by have := unitX_46 h.arm h.b0 h.b4 hy; omega) i x
  unfold tmR
  omega
/-- The greatest gain less a fee. -/
def lsF (P W F : List Int) (a b fee : Int) (x : Nat) : Int := lsV P a (neB P) (fun y => (nth F y - fee) * unitX P W b y) P.length x
theorem lsF_lsP (fee : Int) (x : Nat) : lsF P W F a b fee x = lsP P W F a b fee 1 x := by
  unfold lsF lsP
  congr 1
  funext y
  rw [Int.one_mul]
theorem lsF_bd (h : ArmAB P W F a b) {fee : Int} (hf : -99 ≤ fee ∧ fee ≤ 99) {x : Nat} (hx : x < P.length) : -7000000000 ≤ lsF P W F a b fee x ∧ lsF P W F a b fee x ≤ 7000000000 := by
  have h1 := gnR_bd h (fun z => neB P z && decide (0 ≤ lsP P W F a b fee 1 z)) x
  have h2 := tmR_bd h (fun z => neB P z && decide (0 ≤ lsP P W F a b fee 1 z)) x
  have h3 := lsP_star h hx fee 1
  have h4 := tmR_pos h.arm h.a1 (b := b) (by have := h.a1; have := h.ab; omega) hx (fun z => neB P z && decide (0 ≤ lsP P W F a b fee 1 z))
  have h5 := mulAbs (A := 99) (B := 33592320) hf (y := tmR P W a b (fun z => neB P z && decide (0 ≤ lsP P W F a b fee 1 z)) x) ⟨by omega, h2.2⟩ (by decide)
  rw [lsF_lsP, h3]
  omega
/-- The same, when the first k children have been seen. -/
def lsK (P W F : List Int) (a b fee : Int) (x k : Nat) : Int := (nth F x - fee) * unitX P W b x + kS P (fun y => if neB P y = true then a * mxI (lsF P W F a b fee y) 0 else 0) x k
theorem lsK_zero (fee : Int) (x : Nat) : lsK P W F a b fee x 0 = (nth F x - fee) * unitX P W b x := by simp [lsK, kS]
theorem lsK_in {fee : Int} {x k y : Nat} (hy : nth (kids P (x : Int)) k = (y : Int)) (he : endB P y = false) : lsK P W F a b fee x (k + 1) = lsK P W F a b fee x k + a * mxI (lsF P W F a b fee y) 0 := by
  rw [lsK, lsK, kS, hy, Int.toNat_natCast, if_pos (neB_iff.2 he), Int.add_assoc]
theorem lsK_end {fee : Int} {x k y : Nat} (hy : nth (kids P (x : Int)) k = (y : Int)) (he : endB P y = true) : lsK P W F a b fee x (k + 1) = lsK P W F a b fee x k := by
  rw [lsK, lsK, kS, hy, Int.toNat_natCast, if_neg (by simp [neB, he]), Int.add_zero]
theorem lsK_all (hp : ParOk P) {fee : Int} {x : Nat} (hx : x < P.length) : lsK P W F a b fee x (kids P (x : Int)).length = lsF P W F a b fee x := by
  obtain ⟨m, hm⟩ : ∃ m, P.length = m + 1 := ⟨P.length - 1, by omega⟩
  have e : lsF P W F a b fee x = lsV P a (neB P) (fun y => (nth F y - fee) * unitX P W b y) (m + 1) x := by rw [lsF, hm]
  rw [e, lsV, lsK, kS_sN]
  congr 1
  refine sN_congr fun z hz => ?_
  by_cases h3 : nth P z = (x : Int)
  · have h4 := (dpN_kid hp hz h3).1
    rw [if_pos h3, if_pos h3, lsF, lsV_fuel hp P.length m z hz (by omega) (by omega)]
  · rw [if_neg h3, if_neg h3]
theorem aLs_bd (h : ArmAB P W F a b) {fee : Int} (hf : -99 ≤ fee ∧ fee ≤ 99) {y : Nat} (hy : y < P.length) : 0 ≤ a * mxI (lsF P W F a b fee y) 0 ∧ a * mxI (lsF P W F a b fee y) 0 ≤ 21000000000 := by
  have h1 := lsF_bd h hf hy
  have h2 : 0 ≤ mxI (lsF P W F a b fee y) 0 ∧ mxI (lsF P W F a b fee y) 0 ≤ 7000000000 := by unfold mxI; split <;> omega
  exact mul_bd a _ 3 7000000000 (by have := h.a1; omega) (by have := h.ab; have := h.b4; omega) h2.1 h2.2
theorem fU_bd (h : ArmAB P W F a b) {fee : Int} (hf : -99 ≤ fee ∧ fee ≤ 99) {x : Nat} (hx : x < P.length) : -9123840 ≤ (nth F x - fee) * unitX P W b x ∧ (nth F x - fee) * unitX P W b x ≤ 9123840 := by
  have := mulAbs (A := 198) (B := 46080) (x := nth F x - fee) (by have := h.arm.fb x; omega) (unitX_46 h.arm h.b0 h.b4 hx) (by decide)
  omega
theorem lsK_bd (h : ArmAB P W F a b) {fee : Int} (hf : -99 ≤ fee ∧ fee ≤ 99) {x : Nat} (hx : x < P.length) : ∀ k, k ≤ (kids P (x : Int)).length → -10000000 ≤ lsK P W F a b fee x k ∧ lsK P W F a b fee x k ≤ 10000000 + 21000000000 * (k : Int)
  | 0, _ => by have := fU_bd h hf hx; rw [lsK_zero]; omega
  | k + 1, hk => by
    have ih := lsK_bd h hf hx k (by omega)
    obtain ⟨y, e, _, hy, _⟩ := kid_at h.arm.tree.par (show k < (kids P (x : Int)).length by omega)
    cases he : endB P y
    · have := aLs_bd h hf hy
      rw [lsK_in e he]
      omega
    · rw [lsK_end e he]
      omega
theorem end0 (h : ArmOk P W F) : endB P 0 = decide (F.length = 1) := by
  have h1 := h.tree.n1
  have hl := h.len
  rcases Nat.eq_or_lt_of_le h1 with h' | h'
  · rw [decide_eq_true (by omega), ← kids_nil, List.eq_nil_iff_forall_not_mem]
    intro y hy
    have := kids_mem h.tree.par hy
    omega
  · rw [decide_eq_false (by omega)]
    cases he : endB P 0
    · rfl
    · have h2 := h.tree.par.up 1 (by omega) h'
      have h3 := (kids_nil (P := P) 0).2 he
      have h4 : ((1 : Nat) : Int) ∈ kids P ((0 : Nat) : Int) := mem_kidTo.2 ⟨1, h', by omega, rfl⟩
      rw [h3] at h4
      cases h4
/-- Whether it is asked rightly if a fee is fair, and whether it is. -/
def fvB (P W F : List Int) (a b fee : Int) : Bool := (armB P W F && discB a b) && (inB fee (-99) 99 && !endB P 0)
def fvV (P W F : List Int) (a b fee : Int) : Bool := fvB P W F a b fee && decide (0 ≤ lsF P W F a b fee 0)
theorem fvV_no {fee : Int} (h : fvB P W F a b fee = false) : fvV P W F a b fee = false := by rw [fvV, h]; rfl
theorem fvB_1 {fee : Int} (h : (armB P W F && discB a b) = false) : fvB P W F a b fee = false := by rw [fvB, h]; rfl
theorem fvB_2 {fee : Int} (h : inB fee (-99) 99 = false) : fvB P W F a b fee = false := by rw [fvB, h]; simp
theorem fvB_3 {fee : Int} (h : endB P 0 = true) : fvB P W F a b fee = false := by rw [fvB, h]; simp
theorem fvB_y {fee : Int} (h1 : (armB P W F && discB a b) = true) (h2 : inB fee (-99) 99 = true) (h3 : endB P 0 = false) : fvB P W F a b fee = true := by rw [fvB, h1, h2, h3]; rfl
theorem fvV_y {fee : Int} (h1 : (armB P W F && discB a b) = true) (h2 : inB fee (-99) 99 = true) (h3 : endB P 0 = false) : fvV P W F a b fee = decide (0 ≤ lsF P W F a b fee 0) := by rw [fvV, fvB_y h1 h2 h3]; rfl
theorem fair_iff (h : ArmAB P W F a b) (he : endB P 0 = false) (fee : Int) : decide (0 ≤ lsF P W F a b fee 0) = decide (fee * (idxP P W F a b 0).2 ≤ (idxP P W F a b 0).1 * 1) := by
  rw [lsF_lsP]
  exact decide_eq_decide.2 (lsP_iff h (by have := h.arm.tree.n1; omega) he (by decide))
end

theorem dpN_int (P : List Int) (x : Nat) : (dpN P x : Int) = nth (dep P) x := by
  have := dep_bd P x
  unfold dpN
  omega
theorem dpN_zero {P : List Int} : dpN P 0 = 0 := by
  unfold dpN dep
  rw [depL_stable _ (Nat.zero_le _)]
  rfl
section
variable {P W F : List Int} {a b : Int}
/-- When the first k children have been seen. -/
def totK (P : List Int) (a : Int) (i : Nat → Bool) (v : Nat → Int) (x k : Nat) : Int := v x + kS P (fun y => if i y = true then a * tot P a i v y else 0) x k
theorem totK_zero (i : Nat → Bool) (v : Nat → Int) (x : Nat) : totK P a i v x 0 = v x := by simp [totK, kS]
theorem totK_in {i : Nat → Bool} {v : Nat → Int} {x k y : Nat} (hy : nth (kids P (x : Int)) k = (y : Int)) (he : i y = true) : totK P a i v x (k + 1) = totK P a i v x k + a * tot P a i v y := by
  rw [totK, totK, kS, hy, Int.toNat_natCast, if_pos he, Int.add_assoc]
theorem totK_out {i : Nat → Bool} {v : Nat → Int} {x k y : Nat} (hy : nth (kids P (x : Int)) k = (y : Int)) (he : i y = false) : totK P a i v x (k + 1) = totK P a i v x k := by
  rw [totK, totK, kS, hy, Int.toNat_natCast, if_neg (by rw [he]; simp), Int.add_zero]
theorem totK_all (hp : ParOk P) {i : Nat → Bool} {v : Nat → Int} {x : Nat} (hx : x < P.length) : totK P a i v x (kids P (x : Int)).length = tot P a i v x := by
  obtain ⟨m, hm⟩ : ∃ m, P.length = m + 1 := ⟨P.length - 1, by omega⟩
  rw [← gnV_tot hp a i v P.length x hx (by omega), hm, gnV, ← sN_mul, totK, kS_sN]
  congr 1
  refine sN_congr fun z hz => ?_
  by_cases h3 : nth P z = (x : Int)
  · have h4 := (dpN_kid hp hz h3).1
    rw [if_pos h3]
    by_cases h5 : i z = true
    · rw [if_pos h5, if_pos ⟨h3, h5⟩, gnV_tot hp a i v m z hz (by omega)]
    · rw [if_neg h5, if_neg (fun h => h5 h.2), Int.mul_zero]
  · rw [if_neg h3, if_neg (fun h => h3 h.1), Int.mul_zero]
/-- The same for gain and time. -/
def gnK (P W F : List Int) (a b : Int) (i : Nat → Bool) (x k : Nat) : Int := totK P a i (fun y => nth F y * unitX P W b y) x k
def tmK (P W : List Int) (a b : Int) (i : Nat → Bool) (x k : Nat) : Int := totK P a i (fun y => unitX P W b y) x k
theorem gnK_zero (i : Nat → Bool) (x : Nat) : gnK P W F a b i x 0 = nth F x * unitX P W b x := totK_zero _ _ _
theorem tmK_zero (i : Nat → Bool) (x : Nat) : tmK P W a b i x 0 = unitX P W b x := totK_zero _ _ _
theorem gnK_in {i : Nat → Bool} {x k y : Nat} (hy : nth (kids P (x : Int)) k = (y : Int)) (he : i y = true) : gnK P W F a b i x (k + 1) = gnK P W F a b i x k + a * gnR P W F a b i y := totK_in hy he
theorem tmK_in {i : Nat → Bool} {x k y : Nat} (hy : nth (kids P (x : Int)) k = (y : Int)) (he : i y = true) : tmK P W a b i x (k + 1) = tmK P W a b i x k + a * tmR P W a b i y := totK_in hy he
theorem gnK_out {i : Nat → Bool} {x k y : Nat} (hy : nth (kids P (x : Int)) k = (y : Int)) (he : i y = false) : gnK P W F a b i x (k + 1) = gnK P W F a b i x k := totK_out hy he
theorem tmK_out {i : Nat → Bool} {x k y : Nat} (hy : nth (kids P (x : Int)) k = (y : Int)) (he : i y = false) : tmK P W a b i x (k + 1) = tmK P W a b i x k := totK_out hy he
theorem gnK_all (hp : ParOk P) {i : Nat → Bool} {x : Nat} (hx : x < P.length) : gnK P W F a b i x (kids P (x : Int)).length = gnR P W F a b i x := totK_all hp hx
theorem tmK_all (hp : ParOk P) {i : Nat → Bool} {x : Nat} (hx : x < P.length) : tmK P W a b i x (kids P (x : Int)).length = tmR P W a b i x := totK_all hp hx
theorem aGn_bd (h : ArmAB P W F a b) (i : Nat → Bool) (y : Nat) : -10000000000 ≤ a * gnR P W F a b i y ∧ a * gnR P W F a b i y ≤ 10000000000 := by
  have := mulAbs (A := 3325639680) (B := 3) (gnR_bd h i y) (y := a) ⟨by have := h.a1; omega, by have := h.ab; have := h.b4; omega⟩ (by decide)
  rw [Int.mul_comm (gnR P W F a b i y) a] at this
  omega
theorem aTm_bd (h : ArmAB P W F a b) (i : Nat → Bool) (y : Nat) : -200000000 ≤ a * tmR P W a b i y ∧ a * tmR P W a b i y ≤ 200000000 := by
  have := mulAbs (A := 33592320) (B := 3) (tmR_bd h i y) (y := a) ⟨by have := h.a1; omega, by have := h.ab; have := h.b4; omega⟩ (by decide)
  rw [Int.mul_comm (tmR P W a b i y) a] at this
  omega
theorem gnK_bd (h : ArmAB P W F a b) (i : Nat → Bool) {x : Nat} (hx : x < P.length) : ∀ k, k ≤ (kids P (x : Int)).length → -5000000 - 10000000000 * (k : Int) ≤ gnK P W F a b i x k ∧ gnK P W F a b i x k ≤ 5000000 + 10000000000 * (k : Int)
  | 0, _ => by have := FU_bd h hx; rw [gnK_zero]; omega
  | k + 1, hk => by
    have ih := gnK_bd h i hx k (by omega)
    obtain ⟨y, e, _, hy, _⟩ := kid_at h.arm.tree.par (show k < (kids P (x : Int)).length by omega)
    cases he : i y
    · rw [gnK_out e he]; omega
    · have := aGn_bd h i y
      rw [gnK_in e he]; omega
theorem tmK_bd (h : ArmAB P W F a b) (i : Nat → Bool) {x : Nat} (hx : x < P.length) : ∀ k, k ≤ (kids P (x : Int)).length → -200000000 * (k : Int) ≤ tmK P W a b i x k ∧ tmK P W a b i x k ≤ 50000 + 200000000 * (k : Int)
  | 0, _ => by have := unitX_46 h.arm h.b0 h.b4 hx; rw [tmK_zero]; omega
  | k + 1, hk => by
    have ih := tmK_bd h i hx k (by omega)
    obtain ⟨y, e, _, hy, _⟩ := kid_at h.arm.tree.par (show k < (kids P (x : Int)).length by omega)
    cases he : i y
    · rw [tmK_out e he]; omega
    · have := aTm_bd h i y
      rw [tmK_in e he]; omega
end

theorem bestTo_app {l m : List (Int × Int)} : ∀ k, k < l.length → bestTo true (l ++ m) k = bestTo true l k
  | 0, h => by simp [bestTo, nP, List.getD_eq_getElem?_getD, List.getElem?_append_left h]
  | k + 1, h => by
    have e : nP (l ++ m) (k + 1) = nP l (k + 1) := by simp [nP, List.getD_eq_getElem?_getD, List.getElem?_append_left h]
    rw [bestTo, bestTo, bestTo_app k (by omega), e]
theorem topOf_snoc {l : List (Int × Int)} (h : 0 < l.length) (c : Int × Int) : topOf true (l ++ [c]) = if betP true c (topOf true l) then c else topOf true l := by
  obtain ⟨m, hm⟩ : ∃ m, l.length = m + 1 := ⟨l.length - 1, by omega⟩
  have e : nP (l ++ [c]) (m + 1) = c := by
    rw [← hm]
    simp [nP, List.getD_eq_getElem?_getD]
  have e2 : topOf true l = bestTo true l m := by rw [topOf, hm]; rfl
  rw [e2, topOf, List.length_append, List.length_singleton, hm]
  show bestTo true (l ++ [c]) (m + 1) = _
  rw [bestTo, e, bestTo_app m (by omega)]
section
variable {P W F : List Int} {a b : Int} {f : Nat → Int × Int} {x k : Nat}
/-- The best one so far. -/
def rfB (P W F : List Int) (a b : Int) (f : Nat → Int × Int) (x k : Nat) : Int × Int := topOf true (rfTo P W F a b f x k)
theorem rfTo_len : 0 < (rfTo P W F a b f x k).length := by rw [rfTo]; simp
theorem rfTo_no (h : (decide (x < k) && (undB P x k && neB P k)) = false) : rfTo P W F a b f x (k + 1) = rfTo P W F a b f x k := by
  unfold rfTo
  rw [List.range_succ, List.filter_append]
  simp [h]
theorem rfTo_yes (h : (decide (x < k) && (undB P x k && neB P k)) = true) : rfTo P W F a b f x (k + 1) = rfTo P W F a b f x k ++ [prI P W F a b (inY P f x k) x] := by
  unfold rfTo
  rw [List.range_succ, List.filter_append]
  simp [h]
theorem rfB_no1 (h : undB P x k = false) : rfB P W F a b f x (k + 1) = rfB P W F a b f x k := by
  rw [rfB, rfTo_no (by rw [h]; simp)]
  rfl
theorem rfB_no2 (h : endB P k = true) : rfB P W F a b f x (k + 1) = rfB P W F a b f x k := by
  rw [rfB, rfTo_no (by simp [neB, h])]
  rfl
theorem rfB_yes (hx : x < k) (h1 : undB P x k = true) (h2 : endB P k = false) : rfB P W F a b f x (k + 1) = if betP true (prI P W F a b (inY P f x k) x) (rfB P W F a b f x k) then prI P W F a b (inY P f x k) x else rfB P W F a b f x k := by
  rw [rfB, rfTo_yes (by simp [neB, h1, h2, hx]), topOf_snoc rfTo_len]
  rfl
theorem rfTo_low : ∀ k, k ≤ x + 1 → rfTo P W F a b f x k = [(nth F x, 1)]
  | 0, _ => rfl
  | k + 1, h => by rw [rfTo_no (by rw [decide_eq_false (by omega)]; rfl), rfTo_low k (by omega)]
theorem rfB_start : rfB P W F a b f x (x + 1) = (nth F x, 1) := by rw [rfB, rfTo_low _ (Nat.le_refl _)]; rfl
theorem rfTo_fr (h : ArmAB P W F a b) (hx : x < P.length) : ∀ g ∈ rfTo P W F a b f x k, frP g = true := by
  intro g hg
  rw [rfTo, List.mem_cons] at hg
  rcases hg with rfl | hg
  · rw [← prI_none h hx (i := fun _ => false) fun y hy hr => rch_false h.arm.tree.par hy hr]
    exact prI_fr h hx _
  · obtain ⟨y, _, rfl⟩ := List.mem_map.1 hg
    exact prI_fr h hx _
theorem rfB_fr (h : ArmAB P W F a b) (hx : x < P.length) : frP (rfB P W F a b f x k) = true := rfTo_fr h hx _ (topOf_mem rfTo_len)
/-- The reference's set while it is being made: the nodes below z have been seen. -/
def inM (P : List Int) (f : Nat → Int × Int) (x y z : Nat) : List Bool := (List.range P.length).map fun u => decide (u < z) && inY P f x y u
theorem inM_len (y z : Nat) : (inM P f x y z).length = P.length := by simp [inM]
theorem inM_start (y : Nat) : inM P f x y (x + 1) = List.replicate P.length false := by
  apply List.ext_getElem
  · simp [inM]
  · intro i h1 h2
    simp only [inM, List.getElem_map, List.getElem_range, List.getElem_replicate]
    by_cases h : i < x + 1
    · simp [inY, show ¬ x < i by omega]
    · simp [h]
theorem inM_step {y z : Nat} : (inM P f x y z).set z (inY P f x y z) = inM P f x y (z + 1) := by
  apply List.ext_getElem
  · simp [inM]
  · intro i h1 h2
    rw [List.getElem_set]
    simp only [inM, List.getElem_map, List.getElem_range]
    by_cases h : z = i
    · subst h
      simp
    · rw [if_neg h]
      congr 1
      exact decide_eq_decide.2 (by omega)
theorem inM_nth {y u : Nat} (hu : u < P.length) : nthB (inM P f x y P.length) u = inY P f x y u := by
  simp [nthB, inM, hu]
theorem inM_pr (h : ArmAB P W F a b) (y : Nat) : prI P W F a b (nthB (inM P f x y P.length)) x = prI P W F a b (inY P f x y) x :=
  prI_congr h.arm.tree.par fun z hz => rch_congr h.arm.tree.par hz fun u _ hu _ => inM_nth (by omega)
theorem inY_end {y z : Nat} (h : endB P z = true) : inY P f x y z = false := by simp [inY, neB, h]
theorem inY_in {y z : Nat} (hx : x < z) (h : endB P z = false) : inY P f x y z = !lessP (f z) (f y) := by simp [inY, neB, h, hx]
end


end Go.Proofs.Ytfobjkdkjlbkfaa
