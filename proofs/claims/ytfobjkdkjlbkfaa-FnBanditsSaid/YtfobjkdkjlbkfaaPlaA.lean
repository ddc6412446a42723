/- Playings and their values, plainly (merged of PlayL ValL). -/
import Derived.Test.YtfobjkdkjlbkfaaIdxL
import Derived.Test.YtfobjkdkjlbkfaaMksA
import Derived.Test.YtfobjkdkjlbkfaaRowAt
namespace Go.Proofs.Ytfobjkdkjlbkfaa
open Go.RowKit

def okAt (L : List Mkd) (k : Nat) : Bool := armB (mAt L k).P (mAt L k).W (mAt L k).F
def hgts (L : List Mkd) : Nat → Int
  | 0 => 0
  | k + 1 => hgts L k + hgt (mAt L k).P
def armAll (L : List Mkd) : Bool := (List.range L.length).all fun j => okAt L j
def armsB (L : List Mkd) (a b : Int) : Bool := discB a b && decide (L.length ≤ 3) && armAll L && decide (hgts L L.length ≤ 8)
theorem armAll_no {L : List Mkd} {k : Nat} (hk : k < L.length) (h : okAt L k = false) : armAll L = false := by
  cases ha : armAll L
  · rfl
  · unfold armAll at ha
    rw [List.all_eq_true] at ha
    have := ha k (by simpa using hk)
    rw [h] at this
    cases this
theorem armAll_yes {L : List Mkd} (h : ∀ j, j < L.length → okAt L j = true) : armAll L = true := by
  unfold armAll
  rw [List.all_eq_true]
  intro j hj
  exact h j (by simpa using hj)
theorem armAll_at {L : List Mkd} (h : armAll L = true) (j : Nat) (hj : j < L.length) : okAt L j = true := by
  unfold armAll at h
  rw [List.all_eq_true] at h
  exact h j (by simpa using hj)
theorem hgts_bd {L : List Mkd} : ∀ k, (∀ j, j < k → okAt L j = true) → 0 ≤ hgts L k ∧ hgts L k ≤ 4 * (k : Int) := by
  intro k
  induction k with
  | zero => intro _; exact ⟨Int.le_refl _, by simp [hgts]⟩
  | succ k ih =>
    intro h
    have h1 := ih fun j hj => h j (by omega)
    have h2 := (armB_iff.1 (h k (by omega))).h4
    have h3 := hgt_bd (mAt L k).P
    have e : hgts L (k + 1) = hgts L k + hgt (mAt L k).P := rfl
    rw [e]
    omega
theorem armsB_len {L : List Mkd} {a b : Int} (h : ¬ L.length ≤ 3) : armsB L a b = false := by simp [armsB, h]
theorem armsB_disc {L : List Mkd} {a b : Int} (h : discB a b = false) : armsB L a b = false := by simp [armsB, h]
theorem armsB_arm {L : List Mkd} {a b : Int} (h : armAll L = false) : armsB L a b = false := by simp [armsB, h]
theorem armsB_all {L : List Mkd} {a b : Int} (h1 : discB a b = true) (h2 : L.length ≤ 3) (h3 : armAll L = true) : armsB L a b = decide (hgts L L.length ≤ 8) := by simp [armsB, h1, h2, h3]

/-- An arm's scale: the unit of its first node. -/
def unit0 (L : List Mkd) (b : Int) (k : Nat) : Int := nth (unitL (mAt L k).P (mAt L k).W b) 0
def scTo (L : List Mkd) (b : Int) : Nat → Int
  | 0 => 1
  | k + 1 => scTo L b k * unit0 L b k
def scV (L : List Mkd) (a b : Int) : Int := if armsB L a b then scTo L b L.length else 0
structure ArmsOk (L : List Mkd) (a b : Int) : Prop where
  n3 : L.length ≤ 3
  a1 : 1 ≤ a
  ab : a < b
  b4 : b ≤ 4
  all : ∀ j, j < L.length → okAt L j = true
  h8 : hgts L L.length ≤ 8
theorem armsB_iff {L : List Mkd} {a b : Int} : armsB L a b = true ↔ ArmsOk L a b := by
  simp only [armsB, discB, Bool.and_eq_true, decide_eq_true_eq]
  constructor
  · rintro ⟨⟨⟨⟨⟨h1, h2⟩, h3⟩, h4⟩, h5⟩, h6⟩
    exact ⟨h4, h1, h2, h3, armAll_at h5, h6⟩
  · rintro ⟨h4, h1, h2, h3, h5, h6⟩
    exact ⟨⟨⟨⟨⟨h1, h2⟩, h3⟩, h4⟩, armAll_yes h5⟩, h6⟩
theorem ArmsOk.unit {L : List Mkd} {a b : Int} (h : ArmsOk L a b) {k : Nat} (hk : k < L.length) : 0 ≤ unit0 L b k ∧ unit0 L b k ≤ 122880 :=
  unitL_bd (armB_iff.1 (h.all k hk)) (by have := h.a1; have := h.ab; omega) h.b4 0
theorem ArmsOk.sc {L : List Mkd} {a b : Int} (h : ArmsOk L a b) : ∀ k, k ≤ L.length → 0 ≤ scTo L b k ∧ scTo L b k ≤ 122880 ^ k := by
  intro k
  induction k with
  | zero => intro _; exact ⟨show (0 : Int) ≤ 1 by decide, show (1 : Int) ≤ 122880 ^ 0 by decide⟩
  | succ k ih =>
    intro hk
    have h1 := ih (by omega)
    have h2 := h.unit (k := k) (by omega)
    have := mul_bd (scTo L b k) (unit0 L b k) (122880 ^ k) 122880 h1.1 h1.2 h2.1 h2.2
    exact ⟨this.1, by rw [Int.pow_succ]; exact this.2⟩
theorem ArmsOk.sc3 {L : List Mkd} {a b : Int} (h : ArmsOk L a b) {k : Nat} (hk : k ≤ L.length) : 0 ≤ scTo L b k ∧ scTo L b k ≤ 1855425871872000 := by
  have h1 := h.sc k hk
  have h3 := h.n3
  refine ⟨h1.1, Int.le_trans h1.2 ?_⟩
  match k, Nat.le_trans hk h3 with
  | 0, _ => decide
  | 1, _ => decide
  | 2, _ => decide
  | 3, _ => decide
theorem scV_no {L : List Mkd} {a b : Int} (h : armsB L a b = false) : scV L a b = 0 := by simp [scV, h]
theorem scV_yes {L : List Mkd} {a b : Int} (h : armsB L a b = true) : scV L a b = scTo L b L.length := by simp [scV, h]

/-- The product, the sum over the first k rows at the places X. -/
def prTo (S : List (List Int)) (X : Nat → Nat) : Nat → Int
  | 0 => 1
  | k + 1 => prTo S X k * nth (rowAt S k) (X k)
def suTo (T : List (List Int)) (X : Nat → Nat) : Nat → Int
  | 0 => 0
  | k + 1 => suTo T X k + nth (rowAt T k) (X k)
structure ScOk (S T : List (List Int)) (X : Nat → Nat) (n : Nat) : Prop where
  n3 : n ≤ 3
  lS : S.length = n
  lT : T.length = n
  pl : ∀ k, k < n → X k < (rowAt S k).length ∧ X k < (rowAt T k).length
  bS : ∀ k, k < n → 0 ≤ nth (rowAt S k) (X k) ∧ nth (rowAt S k) (X k) ≤ 480
  bT : ∀ k, k < n → 0 ≤ nth (rowAt T k) (X k) ∧ nth (rowAt T k) (X k) ≤ 4
theorem ScOk.prb {S T : List (List Int)} {X : Nat → Nat} {n : Nat} (h : ScOk S T X n) : ∀ k, k ≤ n → 0 ≤ prTo S X k ∧ prTo S X k ≤ 480 ^ k := by
  intro k
  induction k with
  | zero => intro _; exact ⟨show (0 : Int) ≤ 1 by decide, show (1 : Int) ≤ 480 ^ 0 by decide⟩
  | succ k ih =>
    intro hk
    have h1 := ih (by omega)
    have h2 := h.bS k (by omega)
    have := mul_bd (prTo S X k) (nth (rowAt S k) (X k)) (480 ^ k) 480 h1.1 h1.2 h2.1 h2.2
    exact ⟨this.1, by rw [Int.pow_succ]; exact this.2⟩
theorem ScOk.pr {S T : List (List Int)} {X : Nat → Nat} {n : Nat} (h : ScOk S T X n) (k : Nat) (hk : k ≤ n) : 0 ≤ prTo S X k ∧ prTo S X k ≤ 110592000 := by
  have h1 := h.prb k hk
  refine ⟨h1.1, Int.le_trans h1.2 ?_⟩
  match k, Nat.le_trans hk h.n3 with
  | 0, _ => decide
  | 1, _ => decide
  | 2, _ => decide
  | 3, _ => decide
theorem ScOk.su {S T : List (List Int)} {X : Nat → Nat} {n : Nat} (h : ScOk S T X n) (k : Nat) (hk : k ≤ n) : 0 ≤ suTo T X k ∧ suTo T X k ≤ 12 := by
  have : ∀ k, k ≤ n → 0 ≤ suTo T X k ∧ suTo T X k ≤ 4 * (k : Int) := by
    intro k
    induction k with
    | zero => intro _; exact ⟨Int.le_refl _, Int.le_refl _⟩
    | succ k ih =>
      intro hk
      have h1 := ih (by omega)
      have h2 := h.bT k (by omega)
      have e : suTo T X (k + 1) = suTo T X k + nth (rowAt T k) (X k) := rfl
      rw [e]
      omega
  have h1 := this k hk
  have := h.n3
  omega

def sumRow (m : Mkd) : List Int := gath m.P m.W
def leftRow (m : Mkd) : List Int := (List.range m.P.length).map fun x => hgt m.P - nth (dep m.P) x
def rowsF (f : Mkd → List Int) (L : List Mkd) : List (List Int) := (List.range L.length).map fun k => f (mAt L k)
theorem rowsF_length (f : Mkd → List Int) (L : List Mkd) : (rowsF f L).length = L.length := by simp [rowsF]
theorem rowsF_at {f : Mkd → List Int} {L : List Mkd} {k : Nat} (h : k < L.length) : rowAt (rowsF f L) k = f (mAt L k) := by simp [rowAt, rowsF, h]
theorem leftRow_length (m : Mkd) : (leftRow m).length = m.P.length := by simp [leftRow]
theorem leftRow_nth {m : Mkd} {x : Nat} (h : x < m.P.length) : nth (leftRow m) x = hgt m.P - nth (dep m.P) x := by simp [nth, leftRow, h]
theorem pwAdd (b : Int) (m n : Nat) : pw b (m + n) = pw b m * pw b n := by
  induction n with
  | zero => simp [pw]
  | succ n ih => rw [← Nat.add_assoc, pw_succ, pw_succ, ih, Int.mul_assoc]
/-- Places that lie in the arms. -/
def AtOk (L : List Mkd) (X : Nat → Nat) : Prop := ∀ k, k < L.length → X k < (mAt L k).P.length
theorem ArmsOk.scOk {L : List Mkd} {a b : Int} (h : ArmsOk L a b) {X : Nat → Nat} (hX : AtOk L X) : ScOk (rowsF sumRow L) (rowsF leftRow L) X L.length := by
  refine ⟨h.n3, rowsF_length _ _, rowsF_length _ _, fun k hk => ?_, fun k hk => ?_, fun k hk => ?_⟩
  · rw [rowsF_at hk, rowsF_at hk, leftRow_length, sumRow, gath_length, (armB_iff.1 (h.all k hk)).tree.len]
    exact ⟨hX k hk, hX k hk⟩
  · rw [rowsF_at hk]
    exact (armB_iff.1 (h.all k hk)).tree.sum_bd _
  · rw [rowsF_at hk, leftRow_nth (hX k hk)]
    exact hgt_dep (armB_iff.1 (h.all k hk)) (hX k hk)
theorem ArmsOk.at0 {L : List Mkd} {a b : Int} (h : ArmsOk L a b) : AtOk L fun _ => 0 := fun k hk => (armB_iff.1 (h.all k hk)).tree.n1
theorem ArmsOk.scale0 {L : List Mkd} {a b : Int} (h : ArmsOk L a b) : ∀ k, k ≤ L.length →
    prTo (rowsF sumRow L) (fun _ => 0) k * pw b (suTo (rowsF leftRow L) (fun _ => 0) k).toNat = scTo L b k := by
  have hs := h.scOk h.at0
  intro k
  induction k with
  | zero => intro _; simp [prTo, suTo, scTo, pw]
  | succ k ih =>
    intro hk
    have hk' : k < L.length := by omega
    have h1 := ih (by omega)
    have h2 := (hs.su k (by omega)).1
    have h3 := (hs.bT k hk').1
    have e1 : prTo (rowsF sumRow L) (fun _ => 0) (k + 1) = prTo (rowsF sumRow L) (fun _ => 0) k * nth (rowAt (rowsF sumRow L) k) 0 := rfl
    have e2 : suTo (rowsF leftRow L) (fun _ => 0) (k + 1) = suTo (rowsF leftRow L) (fun _ => 0) k + nth (rowAt (rowsF leftRow L) k) 0 := rfl
    have e3 : scTo L b (k + 1) = scTo L b k * unit0 L b k := rfl
    have hn1 := h.at0 k hk'
    rw [e1, e2, e3, ← h1, Int.toNat_add h2 h3, pwAdd]
    rw [rowsF_at hk', rowsF_at hk', leftRow_nth hn1]
    have e4 : unit0 L b k = nth (sumRow (mAt L k)) 0 * pw b (hgt (mAt L k).P - nth (dep (mAt L k).P) 0).toNat := by
      unfold unit0
      rw [unitL_nth hn1]
      rfl
    rw [e4]
    simp only [Int.mul_assoc]
    congr 1
    rw [← Int.mul_assoc, ← Int.mul_assoc, Int.mul_comm (pw b _) (nth _ _)]


/-- Weights gathered: what a node has is its own and its children's. -/
theorem gatY_tail {P xs : List Int} (hp : ParOk P) (hl : xs.length = P.length) : ∀ d y, y + d = xs.length - 1 → ∀ x, nth (gatY P xs y) x = nth xs x + sN (fun z => if y < z ∧ nth P z = (x : Int) then nth (gatY P xs y) z else 0) xs.length := by
  intro d
  induction d with
  | zero =>
    intro y hy x
    obtain rfl : y = xs.length - 1 := by omega
    rw [gatY_last, sN_zero, Int.add_zero]
    intro i hi
    rw [if_neg (by omega)]
  | succ d ih =>
    intro y hy x
    have h := ih (y + 1) (by omega)
    obtain ⟨p, hpy, hpl⟩ : ∃ p : Nat, nth P (y + 1) = (p : Int) ∧ p < y + 1 := by
      have := hp.up (y + 1) (by omega) (by omega)
      exact ⟨(nth P (y + 1)).toNat, by omega, by omega⟩
    have hst := gatY_step (P := P) (xs := xs) (y := y + 1) (by omega) (by omega) hpy
    rw [show y + 1 - 1 = y by omega] at hst
    have hlen := gatY_length P xs (y + 1)
    have same : ∀ z, z ≠ p → nth (gatY P xs y) z = nth (gatY P xs (y + 1)) z := fun z hz => by rw [hst, nth_set_ne (Ne.symm hz)]
    rcases Decidable.em (x = p) with rfl | hx
    · have hself : nth (gatY P xs y) x = nth (gatY P xs (y + 1)) x + nth (gatY P xs (y + 1)) (y + 1) := by rw [hst, nth_set_self (by omega)]
      rw [hself, h x, Int.add_assoc]
      congr 1
      have e : sN (fun z => if y < z ∧ nth P z = (x : Int) then nth (gatY P xs y) z else 0) xs.length =
          sN (fun z => (if y + 1 < z ∧ nth P z = (x : Int) then nth (gatY P xs (y + 1)) z else 0) + (if z = y + 1 then nth (gatY P xs (y + 1)) (y + 1) else 0)) xs.length := by
        apply sN_congr
        intro z _
        rcases Nat.lt_trichotomy z (y + 1) with h1 | rfl | h1
        · rw [if_neg (by omega), if_neg (by omega), if_neg (by omega)]
          rfl
        · rw [if_pos ⟨by omega, hpy⟩, if_neg (by omega), if_pos rfl, same (y + 1) (by omega), Int.zero_add]
        · rw [if_neg (show ¬ z = y + 1 by omega), Int.add_zero]
          by_cases hz : nth P z = (x : Int)
          · rw [if_pos ⟨by omega, hz⟩, if_pos ⟨h1, hz⟩, same z (by omega)]
          · rw [if_neg (fun h => hz h.2), if_neg (fun h => hz h.2)]
      rw [e, sN_add]
      congr 1
      rw [sN_one (k := y + 1) (by omega) (fun i _ hi => by rw [if_neg hi]), if_pos rfl]
    · rw [same x hx, h x]
      congr 1
      apply sN_congr
      intro z _
      by_cases hz : nth P z = (x : Int)
      · have hzy : z ≠ y + 1 := fun e => by rw [e, hpy] at hz; omega
        by_cases h1 : y < z
        · rw [if_pos ⟨by omega, hz⟩, if_pos ⟨h1, hz⟩, same z (by omega)]
        · rw [if_neg (by omega), if_neg (by omega)]
      · rw [if_neg (fun h => hz h.2), if_neg (fun h => hz h.2)]
theorem gath_kids {P W : List Int} (h : TreeOk P W) {x : Nat} (hx : x < P.length) (he : endB P x = false) : kS P (nth (gath P W)) x (kids P (x : Int)).length = nth (gath P W) x := by
  have hn := h.n1
  have h1 := gatY_tail h.par h.len (W.length - 1) 0 (by have := h.len; omega) x
  rw [gatY_zero] at h1
  have hw := h.wt x hx
  rw [he] at hw
  simp only [Bool.false_eq_true, if_false] at hw
  rw [hw, Int.zero_add] at h1
  rw [h1, kS_sN, h.len]
  apply sN_congr
  intro z hz
  by_cases hzx : nth P z = (x : Int)
  · have : 0 < z := by
      rcases Nat.eq_zero_or_pos z with rfl | h'
      · have := h.par.zero
        omega
      · exact h'
    rw [if_pos hzx, if_pos ⟨this, hzx⟩]
  · rw [if_neg hzx, if_neg (fun h => hzx h.2)]

def updX (X : Nat → Nat) (i y : Nat) : Nat → Nat := fun j => if j = i then y else X j
theorem updX_self (X : Nat → Nat) (i y : Nat) : updX X i y i = y := by simp [updX]
theorem updX_ne (X : Nat → Nat) {i j : Nat} (y : Nat) (h : j ≠ i) : updX X i y j = X j := by simp [updX, h]
theorem updX_same (X : Nat → Nat) (i : Nat) : updX X i (X i) = X := by
  funext j
  unfold updX
  split
  · next h => rw [h]
  · rfl
theorem prTo_congr {S : List (List Int)} {X Y : Nat → Nat} : ∀ n, (∀ i, i < n → X i = Y i) → prTo S X n = prTo S Y n
  | 0, _ => rfl
  | n + 1, h => by rw [prTo, prTo, prTo_congr n (fun i hi => h i (by omega)), h n (by omega)]
theorem suTo_congr {S : List (List Int)} {X Y : Nat → Nat} : ∀ n, (∀ i, i < n → X i = Y i) → suTo S X n = suTo S Y n
  | 0, _ => rfl
  | n + 1, h => by rw [suTo, suTo, suTo_congr n (fun i hi => h i (by omega)), h n (by omega)]
theorem prTo_upd {S : List (List Int)} {X : Nat → Nat} {i : Nat} : ∀ n, i < n → (∀ k, k < n → 0 ≤ nth (rowAt S k) (X k)) → ∃ R : Int, 0 ≤ R ∧ ∀ y, prTo S (updX X i y) n = R * nth (rowAt S i) y := by
  intro n
  induction n with
  | zero => intro h; omega
  | succ n ih =>
    intro hi hb
    rcases Nat.lt_or_ge i n with h | h
    · obtain ⟨R, hR, e⟩ := ih h fun k hk => hb k (by omega)
      refine ⟨R * nth (rowAt S n) (X n), Int.mul_nonneg hR (hb n (by omega)), fun y => ?_⟩
      rw [prTo, e y, updX_ne X y (by omega), Int.mul_assoc, Int.mul_assoc, Int.mul_comm (nth (rowAt S i) y)]
    · obtain rfl : i = n := by omega
      refine ⟨prTo S X i, ?_, fun y => ?_⟩
      · clear ih
        have : ∀ m, m ≤ i → 0 ≤ prTo S X m := by
          intro m
          induction m with
          | zero => intro _; exact (show (0 : Int) ≤ 1 by decide)
          | succ m ih => intro hm; exact Int.mul_nonneg (ih (by omega)) (hb m (by omega))
        exact this i (Nat.le_refl _)
      · rw [prTo, updX_self, prTo_congr (Y := X) i fun j hj => updX_ne X y (by omega)]
theorem suTo_upd {S : List (List Int)} {X : Nat → Nat} {i : Nat} : ∀ n, i < n → ∃ R : Int, ∀ y, suTo S (updX X i y) n = R + nth (rowAt S i) y := by
  intro n
  induction n with
  | zero => intro h; omega
  | succ n ih =>
    intro hi
    rcases Nat.lt_or_ge i n with h | h
    · obtain ⟨R, e⟩ := ih h
      exact ⟨R + nth (rowAt S n) (X n), fun y => by rw [suTo, e y, updX_ne X y (by omega)]; omega⟩
    · obtain rfl : i = n := by omega
      exact ⟨suTo S X i, fun y => by rw [suTo, updX_self, suTo_congr (Y := X) i fun j hj => updX_ne X y (by omega)]⟩

/-- The scale of what is left at the places X. -/
def scX (L : List Mkd) (b : Int) (X : Nat → Nat) : Int := prTo (rowsF sumRow L) X L.length * pw b (suTo (rowsF leftRow L) X L.length).toNat
def remX (L : List Mkd) (X : Nat → Nat) : Nat := (suTo (rowsF leftRow L) X L.length).toNat
def canX (L : List Mkd) (X : Nat → Nat) (i : Nat) : Bool := !endB (mAt L i).P (X i)
/-- Playing arm i, and going on: the first k children. -/
def aftT (L : List Mkd) (a b : Int) (V : (Nat → Nat) → Int) (X : Nat → Nat) (i k : Nat) : Int := nth (mAt L i).F (X i) * scX L b X + kS (mAt L i).P (fun y => a * V (updX X i y)) (X i) k
def aft (L : List Mkd) (a b : Int) (V : (Nat → Nat) → Int) (X : Nat → Nat) (i : Nat) : Int := aftT L a b V X i (kids (mAt L i).P (X i : Nat)).length
def besTo (L : List Mkd) (a b : Int) (V : (Nat → Nat) → Int) (X : Nat → Nat) : Nat → Int
  | 0 => 0
  | k + 1 => if canX L X k then mxI (besTo L a b V X k) (aft L a b V X k) else besTo L a b V X k
/-- A plan: none plays best; else it tells the arm, or a number below 0. -/
def stepV (L : List Mkd) (a b : Int) (pl : Option ((Nat → Nat) → Int)) (V : (Nat → Nat) → Int) (X : Nat → Nat) : Int := match pl with
  | none => besTo L a b V X L.length
  | some ch => if 0 ≤ ch X then aft L a b V X (ch X).toNat else 0
def valF (L : List Mkd) (a b : Int) (pl : Option ((Nat → Nat) → Int)) : Nat → (Nat → Nat) → Int
  | 0, _ => 0
  | m + 1, X => stepV L a b pl (valF L a b pl m) X
def valX (L : List Mkd) (a b : Int) (pl : Option ((Nat → Nat) → Int)) : (Nat → Nat) → Int := valF L a b pl 9
/-- A plan plays arms that can be played. -/
def PlOk (L : List Mkd) (pl : Option ((Nat → Nat) → Int)) : Prop := ∀ ch, pl = some ch → ∀ X, AtOk L X → 0 ≤ ch X → ch X < L.length ∧ canX L X (ch X).toNat = true
section
variable {L : List Mkd} {a b : Int} {X : Nat → Nat} {pl : Option ((Nat → Nat) → Int)}
theorem ArmsOk.arm (h : ArmsOk L a b) {i : Nat} (hi : i < L.length) : ArmOk (mAt L i).P (mAt L i).W (mAt L i).F := armB_iff.1 (h.all i hi)
theorem ArmsOk.upd (_ : ArmsOk L a b) (hX : AtOk L X) {i y : Nat} (_ : i < L.length) (hy : y < (mAt L i).P.length) : AtOk L (updX X i y) := by
  intro k hk
  rcases Decidable.em (k = i) with rfl | hne
  · rw [updX_self]; exact hy
  · rw [updX_ne X y hne]; exact hX k hk
theorem ArmsOk.rem_kid (h : ArmsOk L a b) (hX : AtOk L X) {i y : Nat} (hi : i < L.length) (hy : y < (mAt L i).P.length) (hk : nth (mAt L i).P y = (X i : Nat)) : remX L (updX X i y) + 1 = remX L X := by
  have hp := (h.arm hi).tree.par
  obtain ⟨R, e⟩ := suTo_upd (S := rowsF leftRow L) (X := X) L.length hi
  have h0 := e (X i)
  rw [updX_same] at h0
  have h1 := e y
  rw [rowsF_at hi] at h0 h1
  rw [leftRow_nth (hX i hi)] at h0
  rw [leftRow_nth hy] at h1
  have hy1 : 1 ≤ y := by
    rcases Nat.eq_zero_or_pos y with rfl | h'
    · have := hp.zero
      omega
    · exact h'
  have hlt : X i < y := by
    have := hp.up y hy1 hy
    omega
  have hd := dep_kid (P := (mAt L i).P) hy1 hy hlt hk
  have hs := ((h.scOk (h.upd hX hi hy)).su L.length (Nat.le_refl _)).1
  unfold remX
  omega
theorem ArmsOk.rem8 (h : ArmsOk L a b) (hX : AtOk L X) : remX L X ≤ 8 := by
  have : ∀ k, k ≤ L.length → suTo (rowsF leftRow L) X k ≤ hgts L k := by
    intro k
    induction k with
    | zero => intro _; exact Int.le_refl _
    | succ k ih =>
      intro hk
      have h1 := ih (by omega)
      have h2 := (h.arm (i := k) (by omega)).depth (hX k (by omega))
      rw [suTo, hgts, rowsF_at (by omega), leftRow_nth (hX k (by omega))]
      omega
  have h1 := this L.length (Nat.le_refl _)
  have h2 := h.h8
  unfold remX
  omega
theorem kid_of {P : List Int} (hp : ParOk P) {x i : Nat} (hi : i < (kids P (x : Int)).length) : (nth (kids P (x : Int)) i).toNat < P.length ∧ nth P (nth (kids P (x : Int)) i).toNat = (x : Int) := by
  obtain ⟨y, h1, _, h3, h4⟩ := kid_at hp hi
  rw [h1, Int.toNat_natCast]
  exact ⟨h3, h4⟩
theorem aft_congr {V V' : (Nat → Nat) → Int} {i : Nat} (hp : ParOk (mAt L i).P) (h : ∀ y, y < (mAt L i).P.length → nth (mAt L i).P y = (X i : Nat) → V (updX X i y) = V' (updX X i y)) : aft L a b V X i = aft L a b V' X i := by
  unfold aft aftT
  congr 1
  apply kS_congr
  intro k hk
  obtain ⟨h1, h2⟩ := kid_of hp hk
  rw [h _ h1 h2]
theorem besTo_congr {V V' : (Nat → Nat) → Int} : ∀ n, (∀ i, i < n → canX L X i = true → aft L a b V X i = aft L a b V' X i) → besTo L a b V X n = besTo L a b V' X n
  | 0, _ => rfl
  | n + 1, h => by
    rw [besTo, besTo, besTo_congr n fun i hi => h i (by omega)]
    split
    · next hc => rw [h n (by omega) hc]
    · rfl
theorem stepV_congr (h : ArmsOk L a b) (hX : AtOk L X) (hpl : PlOk L pl) {V V' : (Nat → Nat) → Int} (hv : ∀ i y, i < L.length → y < (mAt L i).P.length → nth (mAt L i).P y = (X i : Nat) → V (updX X i y) = V' (updX X i y)) : stepV L a b pl V X = stepV L a b pl V' X := by
  have ha : ∀ i, i < L.length → aft L a b V X i = aft L a b V' X i := fun i hi => aft_congr (h.arm hi).tree.par fun y hy hk => hv i y hi hy hk
  unfold stepV
  split
  · exact besTo_congr _ fun i hi _ => ha i hi
  · next ch =>
    split
    · next h0 =>
      have := hpl ch rfl X hX h0
      rw [ha _ (by omega)]
    · rfl
theorem valF_fuel (h : ArmsOk L a b) (hpl : PlOk L pl) : ∀ m m' X, AtOk L X → remX L X < m → remX L X < m' → valF L a b pl m X = valF L a b pl m' X := by
  intro m
  induction m with
  | zero => intro m' X _ h1; omega
  | succ m ih =>
    intro m' X hX h1 h2
    obtain ⟨k, rfl⟩ : ∃ k, m' = k + 1 := ⟨m' - 1, by omega⟩
    rw [valF, valF]
    refine stepV_congr h hX hpl fun i y hi hy hk => ?_
    have := h.rem_kid hX hi hy hk
    exact ih k _ (h.upd hX hi hy) (by omega) (by omega)
/-- The values' own law. -/
theorem valX_eq (h : ArmsOk L a b) (hpl : PlOk L pl) (hX : AtOk L X) : valX L a b pl X = stepV L a b pl (valX L a b pl) X := by
  show valF L a b pl (8 + 1) X = _
  rw [valF]
  refine stepV_congr h hX hpl fun i y hi hy hk => ?_
  have h1 := h.rem_kid hX hi hy hk
  have h2 := h.rem8 hX
  exact valF_fuel h hpl 8 9 _ (h.upd hX hi hy) (by omega) (by omega)
/-- Whatever obeys the law is the values. -/
theorem valX_uniq (h : ArmsOk L a b) (hpl : PlOk L pl) {V : (Nat → Nat) → Int} (hV : ∀ X, AtOk L X → V X = stepV L a b pl V X) : ∀ m X, AtOk L X → remX L X < m → V X = valX L a b pl X := by
  intro m
  induction m with
  | zero => intro X _ h1; omega
  | succ m ih =>
    intro X hX h1
    rw [hV X hX, valX_eq h hpl hX]
    refine stepV_congr h hX hpl fun i y hi hy hk => ?_
    have := h.rem_kid hX hi hy hk
    exact ih _ (h.upd hX hi hy) (by omega)
end

theorem kS_le {P : List Int} {v g : Nat → Int} {x k : Nat} (h : ∀ i, i < k → v (nth (kids P (x : Int)) i).toNat ≤ g (nth (kids P (x : Int)) i).toNat) : kS P v x k ≤ kS P g x k := by
  induction k with
  | zero => exact Int.le_refl _
  | succ k ih =>
    have h1 := ih fun i hi => h i (by omega)
    have h2 := h k (by omega)
    rw [kS, kS]
    omega
theorem kS_mul {P : List Int} (c : Int) (v : Nat → Int) (x k : Nat) : kS P (fun y => c * v y) x k = c * kS P v x k := by
  induction k with
  | zero => simp [kS]
  | succ k ih => rw [kS, kS, ih, Int.mul_add]
section
variable {L : List Mkd} {a b : Int} {X : Nat → Nat} {pl : Option ((Nat → Nat) → Int)}
theorem ArmsOk.scX_bd (h : ArmsOk L a b) (hX : AtOk L X) : 0 ≤ scX L b X ∧ scX L b X ≤ 7247757312000 := by
  have h1 := (h.scOk hX).pr L.length (Nat.le_refl _)
  have ha := h.a1
  have hb := h.ab
  have h2 := pw_bd 4 8 65536 (by decide) (show 0 ≤ b by omega) h.b4 (by decide) (k := remX L X) (h.rem8 hX)
  exact mul_bd _ _ 110592000 65536 h1.1 h1.2 h2.1 h2.2
theorem ArmsOk.scX_kids (h : ArmsOk L a b) (hX : AtOk L X) {i : Nat} (hi : i < L.length) (hc : canX L X i = true) :
    b * kS (mAt L i).P (fun y => scX L b (updX X i y)) (X i) (kids (mAt L i).P (X i : Nat)).length = scX L b X := by
  have he : endB (mAt L i).P (X i) = false := by simpa [canX] using hc
  obtain ⟨R, _, e⟩ := prTo_upd (S := rowsF sumRow L) (X := X) L.length hi fun k hk => ((h.scOk hX).bS k hk).1
  have e0 := e (X i)
  rw [updX_same, rowsF_at hi] at e0
  have hg := gath_kids (h.arm hi).tree (hX i hi) he
  have hpos : 0 < (kids (mAt L i).P (X i : Nat)).length := by
    have : kids (mAt L i).P (X i : Nat) ≠ [] := fun h' => by rw [(kids_nil _).1 h'] at he; cases he
    exact List.length_pos_iff.2 this
  have hrem : ∀ k, k < (kids (mAt L i).P (X i : Nat)).length → remX L (updX X i (nth (kids (mAt L i).P (X i : Nat)) k).toNat) + 1 = remX L X := fun k hk => by
    obtain ⟨h1, h2⟩ := kid_of (h.arm hi).tree.par hk
    exact h.rem_kid hX hi h1 h2
  have hr1 : 1 ≤ remX L X := by have := hrem 0 hpos; omega
  have key : kS (mAt L i).P (fun y => scX L b (updX X i y)) (X i) (kids (mAt L i).P (X i : Nat)).length = (R * pw b (remX L X - 1)) * kS (mAt L i).P (nth (gath (mAt L i).P (mAt L i).W)) (X i) (kids (mAt L i).P (X i : Nat)).length := by
    rw [← kS_mul]
    apply kS_congr
    intro k hk
    have h1 := hrem k hk
    have h2 : scX L b (updX X i (nth (kids (mAt L i).P (X i : Nat)) k).toNat) = prTo (rowsF sumRow L) (updX X i (nth (kids (mAt L i).P (X i : Nat)) k).toNat) L.length * pw b (remX L (updX X i (nth (kids (mAt L i).P (X i : Nat)) k).toNat)) := rfl
    rw [h2, e, rowsF_at hi, show remX L (updX X i (nth (kids (mAt L i).P (X i : Nat)) k).toNat) = remX L X - 1 by omega]
    rw [Int.mul_assoc, Int.mul_assoc, Int.mul_comm (pw b _)]
    rfl
  rw [key, hg]
  have h3 : scX L b X = prTo (rowsF sumRow L) X L.length * pw b (remX L X) := rfl
  rw [h3, e0, show remX L X = (remX L X - 1) + 1 by omega, pw_succ, show remX L X - 1 + 1 - 1 = remX L X - 1 by omega]
  generalize pw b (remX L X - 1) = q
  show b * (R * q * nth (gath (mAt L i).P (mAt L i).W) (X i)) = R * nth (sumRow (mAt L i)) (X i) * (q * b)
  rw [sumRow]
  generalize nth (gath (mAt L i).P (mAt L i).W) (X i) = r
  simp only [Int.mul_comm, Int.mul_left_comm]
theorem ArmsOk.aft_bd (h : ArmsOk L a b) (hX : AtOk L X) {V : (Nat → Nat) → Int} {M : Int} (hM : 0 ≤ M) {i : Nat} (hi : i < L.length) (hc : canX L X i = true)
    (hv : ∀ y, y < (mAt L i).P.length → nth (mAt L i).P y = (X i : Nat) → -(M * scX L b (updX X i y)) ≤ V (updX X i y) ∧ V (updX X i y) ≤ M * scX L b (updX X i y)) :
    -((99 + M) * scX L b X) ≤ aft L a b V X i ∧ aft L a b V X i ≤ (99 + M) * scX L b X := by
  have hs := h.scX_bd hX
  have hk := h.scX_kids hX hi hc
  have hp := (h.arm hi).tree.par
  have ha := h.a1
  have hb := h.ab
  have hf : -99 ≤ nth (mAt L i).F (X i) ∧ nth (mAt L i).F (X i) ≤ 99 := by
    have := (h.arm hi).len
    have := (h.arm hi).fees
    exact allB_nth this (by have := hX i hi; omega)
  have h1 : -(99 * scX L b X) ≤ nth (mAt L i).F (X i) * scX L b X ∧ nth (mAt L i).F (X i) * scX L b X ≤ 99 * scX L b X := by
    have u1 := Int.mul_le_mul_of_nonneg_right hf.2 hs.1
    have u2 := Int.mul_le_mul_of_nonneg_right hf.1 hs.1
    rw [Int.neg_mul] at u2
    exact ⟨u2, u1⟩
  have hS : 0 ≤ kS (mAt L i).P (fun y => scX L b (updX X i y)) (X i) (kids (mAt L i).P (X i : Nat)).length := by
    have : kS (mAt L i).P (fun _ => 0) (X i) (kids (mAt L i).P (X i : Nat)).length ≤ kS (mAt L i).P (fun y => scX L b (updX X i y)) (X i) (kids (mAt L i).P (X i : Nat)).length := kS_le fun k hk' => by
      obtain ⟨u1, _⟩ := kid_of hp hk'
      exact (h.scX_bd (h.upd hX hi u1)).1
    have z : ∀ n, kS (mAt L i).P (fun _ => 0) (X i) n = 0 := fun n => by
      induction n with
      | zero => rfl
      | succ n ih => rw [kS, ih]; rfl
    rw [z] at this
    exact this
  have h2 : kS (mAt L i).P (fun y => a * V (updX X i y)) (X i) (kids (mAt L i).P (X i : Nat)).length ≤ kS (mAt L i).P (fun y => a * M * scX L b (updX X i y)) (X i) (kids (mAt L i).P (X i : Nat)).length := kS_le fun k hk' => by
    obtain ⟨u1, u2⟩ := kid_of hp hk'
    rw [Int.mul_assoc]
    exact Int.mul_le_mul_of_nonneg_left (hv _ u1 u2).2 (by omega)
  have h3 : kS (mAt L i).P (fun y => -(a * M) * scX L b (updX X i y)) (X i) (kids (mAt L i).P (X i : Nat)).length ≤ kS (mAt L i).P (fun y => a * V (updX X i y)) (X i) (kids (mAt L i).P (X i : Nat)).length := kS_le fun k hk' => by
    obtain ⟨u1, u2⟩ := kid_of hp hk'
    have := Int.mul_le_mul_of_nonneg_left (hv _ u1 u2).1 (show 0 ≤ a by omega)
    rw [Int.neg_mul, Int.mul_assoc, ← Int.mul_neg]
    exact this
  rw [kS_mul (a * M)] at h2
  rw [kS_mul (-(a * M))] at h3
  have h4 : a * M * kS (mAt L i).P (fun y => scX L b (updX X i y)) (X i) (kids (mAt L i).P (X i : Nat)).length ≤ M * scX L b X := by
    rw [← hk, Int.mul_comm a M, Int.mul_assoc]
    refine Int.mul_le_mul_of_nonneg_left ?_ hM
    exact Int.mul_le_mul_of_nonneg_right (by omega) hS
  unfold aft aftT
  rw [Int.add_mul]
  rw [Int.neg_mul] at h3
  omega
theorem ArmsOk.besTo_bd (_h : ArmsOk L a b) (_hX : AtOk L X) {V : (Nat → Nat) → Int} {K : Int} (hK : 0 ≤ K) : ∀ n, n ≤ L.length → (∀ i, i < n → canX L X i = true → -K ≤ aft L a b V X i ∧ aft L a b V X i ≤ K) → 0 ≤ besTo L a b V X n ∧ besTo L a b V X n ≤ K := by
  intro n
  induction n with
  | zero => intro _ _; exact ⟨Int.le_refl _, hK⟩
  | succ n ih =>
    intro hn hv
    have h1 := ih (by omega) fun i hi => hv i (by omega)
    rw [besTo]
    split
    · next hc =>
      have h2 := hv n (by omega) hc
      unfold mxI
      split <;> omega
    · exact h1
theorem valF_bd (h : ArmsOk L a b) (hpl : PlOk L pl) : ∀ (m : Nat) X, AtOk L X → -(99 * (m : Int) * scX L b X) ≤ valF L a b pl m X ∧ valF L a b pl m X ≤ 99 * (m : Int) * scX L b X := by
  intro m
  induction m with
  | zero => intro X _; simp [valF]
  | succ m ih =>
    intro X hX
    have hs := h.scX_bd hX
    have hM : (0 : Int) ≤ 99 * (m : Int) := by omega
    have ha : ∀ i, i < L.length → canX L X i = true → -((99 + 99 * (m : Int)) * scX L b X) ≤ aft L a b (valF L a b pl m) X i ∧ aft L a b (valF L a b pl m) X i ≤ (99 + 99 * (m : Int)) * scX L b X :=
      fun i hi hc => h.aft_bd hX hM hi hc fun y hy hk => ih _ (h.upd hX hi hy)
    have e : 99 * ((m + 1 : Nat) : Int) = 99 + 99 * (m : Int) := by omega
    have hK : 0 ≤ (99 + 99 * (m : Int)) * scX L b X := Int.mul_nonneg (by omega) hs.1
    rw [e, valF]
    unfold stepV
    split
    · have := h.besTo_bd hX (V := valF L a b none m) hK L.length (Nat.le_refl _) (by simpa using ha)
      omega
    · next ch =>
      split
      · next h0 =>
        have := hpl ch rfl X hX h0
        exact ha _ (by omega) this.2
      · omega
theorem valX_bd (h : ArmsOk L a b) (hpl : PlOk L pl) (hX : AtOk L X) : -6457751764992000 ≤ valX L a b pl X ∧ valX L a b pl X ≤ 6457751764992000 := by
  have h1 := valF_bd h hpl 9 X hX
  have h2 := h.scX_bd hX
  unfold valX
  omega
theorem aftT_bd (h : ArmsOk L a b) (hpl : PlOk L pl) (hX : AtOk L X) {i k : Nat} (hi : i < L.length) (hk : k ≤ (kids (mAt L i).P (X i : Nat)).length) : -200000000000000000 ≤ aftT L a b (valX L a b pl) X i k ∧ aftT L a b (valX L a b pl) X i k ≤ 200000000000000000 := by
  have hs := h.scX_bd hX
  have hp := (h.arm hi).tree.par
  have ha := h.a1
  have hb := h.ab
  have h4 := h.b4
  have hf : -99 ≤ nth (mAt L i).F (X i) ∧ nth (mAt L i).F (X i) ≤ 99 := by
    have := (h.arm hi).len
    have := (h.arm hi).fees
    exact allB_nth this (by have := hX i hi; omega)
  have h1 : -(99 * scX L b X) ≤ nth (mAt L i).F (X i) * scX L b X ∧ nth (mAt L i).F (X i) * scX L b X ≤ 99 * scX L b X := by
    have u1 := Int.mul_le_mul_of_nonneg_right hf.2 hs.1
    have u2 := Int.mul_le_mul_of_nonneg_right hf.1 hs.1
    rw [Int.neg_mul] at u2
    exact ⟨u2, u1⟩
  have h2 : -(19373255294976000 * (k : Int)) ≤ kS (mAt L i).P (fun y => a * valX L a b pl (updX X i y)) (X i) k ∧ kS (mAt L i).P (fun y => a * valX L a b pl (updX X i y)) (X i) k ≤ 19373255294976000 * (k : Int) := kS_abs fun j hj => by
    obtain ⟨u1, u2⟩ := kid_of hp (Nat.lt_of_lt_of_le hj hk)
    have u3 := valX_bd h hpl (h.upd hX hi u1)
    have := mulAbs (x := valX L a b pl (updX X i (nth (kids (mAt L i).P (X i : Nat)) j).toNat)) (y := a) (A := 6457751764992000) (B := 3) u3 ⟨by omega, by omega⟩ (by decide)
    rw [Int.mul_comm] at this
    rw [Int.mul_comm a]
    omega
  have h3 : (kids (mAt L i).P (X i : Nat)).length ≤ 9 := by
    have := kidTo_len (mAt L i).P (X i : Nat) (mAt L i).P.length
    have := (h.arm hi).n9
    unfold kids
    omega
  unfold aftT
  omega
end
theorem aftT_next (L : List Mkd) (a b : Int) (V : (Nat → Nat) → Int) (X : Nat → Nat) (i k y : Nat) (h : nth (kids (mAt L i).P (X i : Nat)) k = (y : Int)) : aftT L a b V X i (k + 1) = aftT L a b V X i k + a * V (updX X i y) := by
  unfold aftT
  rw [kS, h, Int.toNat_natCast, Int.add_assoc]

end Go.Proofs.Ytfobjkdkjlbkfaa
