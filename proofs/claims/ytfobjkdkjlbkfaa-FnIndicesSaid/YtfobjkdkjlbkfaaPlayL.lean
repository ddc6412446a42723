/- Several arms that are played: the plain laws of their scale. -/
import Derived.Test.YtfobjkdkjlbkfaaLvL
import Derived.Test.YtfobjkdkjlbkfaaMksA
import Derived.Test.YtfobjkdkjlbkfaaRowAt
namespace Go.Proofs.Ytfobjkdkjlbkfaa
open Go.RowKit

def okAt (L : List Mkd) (k : Nat) : Bool := armB (mAt L k).P (mAt L k).W (mAt L k).F
def hgts (L : List Mkd) : Nat → Int
  | 0 => 0
  | k + 1 => hgts L k + hgt (mAt L k).P
def armAll (L : List Mkd) : Bool := (List.range L.length).all fun j => okAt L j
def armsB (L : List Mkd) (a b : Int) : Bool := discB a b && decide (L.length ≤ 3) && armAll L && decide (hgts L L.length ≤ 8)
theorem armAll_no {L : List Mkd} {k : Nat} (hk : k < L.length) (h : okAt L k = false) : armAll L = false := by
  cases ha : armAll L
  · rfl
  · unfold armAll at ha
    rw [List.all_eq_true] at ha
    have := ha k (by simpa using hk)
    rw [h] at this
    cases this
theorem armAll_yes {L : List Mkd} (h : ∀ j, j < L.length → okAt L j = true) : armAll L = true := by
  unfold armAll
  rw [List.all_eq_true]
  intro j hj
  exact h j (by simpa using hj)
theorem armAll_at {L : List Mkd} (h : armAll L = true) (j : Nat) (hj : j < L.length) : okAt L j = true := by
  unfold armAll at h
  rw [List.all_eq_true] at h
  exact h j (by simpa using hj)
theorem hgts_bd {L : List Mkd} : ∀ k, (∀ j, j < k → okAt L j = true) → 0 ≤ hgts L k ∧ hgts L k ≤ 4 * (k : Int) := by
  intro k
  induction k with
  | zero => intro _; exact ⟨Int.le_refl _, by simp [hgts]⟩
  | succ k ih =>
    intro h
    have h1 := ih fun j hj => h j (by omega)
    have h2 := (armB_iff.1 (h k (by omega))).h4
    have h3 := hgt_bd (mAt L k).P
    have e : hgts L (k + 1) = hgts L k + hgt (mAt L k).P := rfl
    rw [e]
    omega
theorem armsB_len {L : List Mkd} {a b : Int} (h : ¬ L.length ≤ 3) : armsB L a b = false := by simp [armsB, h]
theorem armsB_disc {L : List Mkd} {a b : Int} (h : discB a b = false) : armsB L a b = false := by simp [armsB, h]
theorem armsB_arm {L : List Mkd} {a b : Int} (h : armAll L = false) : armsB L a b = false := by simp [armsB, h]
theorem armsB_all {L : List Mkd} {a b : Int} (h1 : discB a b = true) (h2 : L.length ≤ 3) (h3 : armAll L = true) : armsB L a b = decide (hgts L L.length ≤ 8) := by simp [armsB, h1, h2, h3]

/-- An arm's scale: the unit of its first node. -/
def unit0 (L : List Mkd) (b : Int) (k : Nat) : Int := nth (unitL (mAt L k).P (mAt L k).W b) 0
def scTo (L : List Mkd) (b : Int) : Nat → Int
  | 0 => 1
  | k + 1 => scTo L b k * unit0 L b k
def scV (L : List Mkd) (a b : Int) : Int := if armsB L a b then scTo L b L.length else 0
structure ArmsOk (L : List Mkd) (a b : Int) : Prop where
  n3 : L.length ≤ 3
  a1 : 1 ≤ a
  ab : a < b
  b4 : b ≤ 4
  all : ∀ j, j < L.length → okAt L j = true
  h8 : hgts L L.length ≤ 8
theorem armsB_iff {L : List Mkd} {a b : Int} : armsB L a b = true ↔ ArmsOk L a b := by
  simp only [armsB, discB, Bool.and_eq_true, decide_eq_true_eq]
  constructor
  · rintro ⟨⟨⟨⟨⟨h1, h2⟩, h3⟩, h4⟩, h5⟩, h6⟩
    exact ⟨h4, h1, h2, h3, armAll_at h5, h6⟩
  · rintro ⟨h4, h1, h2, h3, h5, h6⟩
    exact ⟨⟨⟨⟨⟨h1, h2⟩, h3⟩, h4⟩, armAll_yes h5⟩, h6⟩
theorem ArmsOk.unit {L : List Mkd} {a b : Int} (h : ArmsOk L a b) {k : Nat} (hk : k < L.length) : 0 ≤ unit0 L b k ∧ unit0 L b k ≤ 122880 :=
  unitL_bd (armB_iff.1 (h.all k hk)) (by have := h.a1; have := h.ab; omega) h.b4 0
theorem ArmsOk.sc {L : List Mkd} {a b : Int} (h : ArmsOk L a b) : ∀ k, k ≤ L.length → 0 ≤ scTo L b k ∧ scTo L b k ≤ 122880 ^ k := by
  intro k
  induction k with
  | zero => intro _; exact ⟨show (0 : Int) ≤ 1 by decide, show (1 : Int) ≤ 122880 ^ 0 by decide⟩
  | succ k ih =>
    intro hk
    have h1 := ih (by omega)
    have h2 := h.unit (k := k) (by omega)
    have := mul_bd (scTo L b k) (unit0 L b k) (122880 ^ k) 122880 h1.1 h1.2 h2.1 h2.2
    exact ⟨this.1, by rw [Int.pow_succ]; exact this.2⟩
theorem ArmsOk.sc3 {L : List Mkd} {a b : Int} (h : ArmsOk L a b) {k : Nat} (hk : k ≤ L.length) : 0 ≤ scTo L b k ∧ scTo L b k ≤ 1855425871872000 := by
  have h1 := h.sc k hk
  have h3 := h.n3
  refine ⟨h1.1, Int.le_trans h1.2 ?_⟩
  match k, Nat.le_trans hk h3 with
  | 0, _ => decide
  | 1, _ => decide
  | 2, _ => decide
  | 3, _ => decide
theorem scV_no {L : List Mkd} {a b : Int} (h : armsB L a b = false) : scV L a b = 0 := by simp [scV, h]
theorem scV_yes {L : List Mkd} {a b : Int} (h : armsB L a b = true) : scV L a b = scTo L b L.length := by simp [scV, h]

/-- The product, the sum over the first k rows at the places X. -/
def prTo (S : List (List Int)) (X : Nat → Nat) : Nat → Int
  | 0 => 1
  | k + 1 => prTo S X k * nth (rowAt S k) (X k)
def suTo (T : List (List Int)) (X : Nat → Nat) : Nat → Int
  | 0 => 0
  | k + 1 => suTo T X k + nth (rowAt T k) (X k)
structure ScOk (S T : List (List Int)) (X : Nat → Nat) (n : Nat) : Prop where
  n3 : n ≤ 3
  lS : S.length = n
  lT : T.length = n
  pl : ∀ k, k < n → X k < (rowAt S k).length ∧ X k < (rowAt T k).length
  bS : ∀ k, k < n → 0 ≤ nth (rowAt S k) (X k) ∧ nth (rowAt S k) (X k) ≤ 480
  bT : ∀ k, k < n → 0 ≤ nth (rowAt T k) (X k) ∧ nth (rowAt T k) (X k) ≤ 4
theorem ScOk.prb {S T : List (List Int)} {X : Nat → Nat} {n : Nat} (h : ScOk S T X n) : ∀ k, k ≤ n → 0 ≤ prTo S X k ∧ prTo S X k ≤ 480 ^ k := by
  intro k
  induction k with
  | zero => intro _; exact ⟨show (0 : Int) ≤ 1 by decide, show (1 : Int) ≤ 480 ^ 0 by decide⟩
  | succ k ih =>
    intro hk
    have h1 := ih (by omega)
    have h2 := h.bS k (by omega)
    have := mul_bd (prTo S X k) (nth (rowAt S k) (X k)) (480 ^ k) 480 h1.1 h1.2 h2.1 h2.2
    exact ⟨this.1, by rw [Int.pow_succ]; exact this.2⟩
theorem ScOk.pr {S T : List (List Int)} {X : Nat → Nat} {n : Nat} (h : ScOk S T X n) (k : Nat) (hk : k ≤ n) : 0 ≤ prTo S X k ∧ prTo S X k ≤ 110592000 := by
  have h1 := h.prb k hk
  refine ⟨h1.1, Int.le_trans h1.2 ?_⟩
  match k, Nat.le_trans hk h.n3 with
  | 0, _ => decide
  | 1, _ => decide
  | 2, _ => decide
  | 3, _ => decide
theorem ScOk.su {S T : List (List Int)} {X : Nat → Nat} {n : Nat} (h : ScOk S T X n) (k : Nat) (hk : k ≤ n) : 0 ≤ suTo T X k ∧ suTo T X k ≤ 12 := by
  have : ∀ k, k ≤ n → 0 ≤ suTo T X k ∧ suTo T X k ≤ 4 * (k : Int) := by
    intro k
    induction k with
    | zero => intro _; exact ⟨Int.le_refl _, Int.le_refl _⟩
    | succ k ih =>
      intro hk
      have h1 := ih (by omega)
      have h2 := h.bT k (by omega)
      have e : suTo T X (k + 1) = suTo T X k + nth (rowAt T k) (X k) := rfl
      rw [e]
      omega
  have h1 := this k hk
  have := h.n3
  omega

def sumRow (m : Mkd) : List Int := gath m.P m.W
def leftRow (m : Mkd) : List Int := (List.range m.P.length).map fun x => hgt m.P - nth (dep m.P) x
def rowsF (f : Mkd → List Int) (L : List Mkd) : List (List Int) := (List.range L.length).map fun k => f (mAt L k)
theorem rowsF_length (f : Mkd → List Int) (L : List Mkd) : (rowsF f L).length = L.length := by simp [rowsF]
theorem rowsF_at {f : Mkd → List Int} {L : List Mkd} {k : Nat} (h : k < L.length) : rowAt (rowsF f L) k = f (mAt L k) := by simp [rowAt, rowsF, h]
theorem leftRow_length (m : Mkd) : (leftRow m).length = m.P.length := by simp [leftRow]
theorem leftRow_nth {m : Mkd} {x : Nat} (h : x < m.P.length) : nth (leftRow m) x = hgt m.P - nth (dep m.P) x := by simp [nth, leftRow, h]
theorem pwAdd (b : Int) (m n : Nat) : pw b (m + n) = pw b m * pw b n := by
  induction n with
  | zero => simp [pw]
  | succ n ih => rw [← Nat.add_assoc, pw_succ, pw_succ, ih, Int.mul_assoc]
/-- Places that lie in the arms. -/
def AtOk (L : List Mkd) (X : Nat → Nat) : Prop := ∀ k, k < L.length → X k < (mAt L k).P.length
theorem ArmsOk.scOk {L : List Mkd} {a b : Int} (h : ArmsOk L a b) {X : Nat → Nat} (hX : AtOk L X) : ScOk (rowsF sumRow L) (rowsF leftRow L) X L.length := by
  refine ⟨h.n3, rowsF_length _ _, rowsF_length _ _, fun k hk => ?_, fun k hk => ?_, fun k hk => ?_⟩
  · rw [rowsF_at hk, rowsF_at hk, leftRow_length, sumRow, gath_length, (armB_iff.1 (h.all k hk)).tree.len]
    exact ⟨hX k hk, hX k hk⟩
  · rw [rowsF_at hk]
    exact (armB_iff.1 (h.all k hk)).tree.sum_bd _
  · rw [rowsF_at hk, leftRow_nth (hX k hk)]
    exact hgt_dep (armB_iff.1 (h.all k hk)) (hX k hk)
theorem ArmsOk.at0 {L : List Mkd} {a b : Int} (h : ArmsOk L a b) : AtOk L fun _ => 0 := fun k hk => (armB_iff.1 (h.all k hk)).tree.n1
theorem ArmsOk.scale0 {L : List Mkd} {a b : Int} (h : ArmsOk L a b) : ∀ k, k ≤ L.length →
    prTo (rowsF sumRow L) (fun _ => 0) k * pw b (suTo (rowsF leftRow L) (fun _ => 0) k).toNat = scTo L b k := by
  have hs := h.scOk h.at0
  intro k
  induction k with
  | zero => intro _; simp [prTo, suTo, scTo, pw]
  | succ k ih =>
    intro hk
    have hk' : k < L.length := by omega
    have h1 := ih (by omega)
    have h2 := (hs.su k (by omega)).1
    have h3 := (hs.bT k hk').1
    have e1 : prTo (rowsF sumRow L) (fun _ => 0) (k + 1) = prTo (rowsF sumRow L) (fun _ => 0) k * nth (rowAt (rowsF sumRow L) k) 0 := rfl
    have e2 : suTo (rowsF leftRow L) (fun _ => 0) (k + 1) = suTo (rowsF leftRow L) (fun _ => 0) k + nth (rowAt (rowsF leftRow L) k) 0 := rfl
    have e3 : scTo L b (k + 1) = scTo L b k * unit0 L b k := rfl
    have hn1 := h.at0 k hk'
    rw [e1, e2, e3, ← h1, Int.toNat_add h2 h3, pwAdd]
    rw [rowsF_at hk', rowsF_at hk', leftRow_nth hn1]
    have e4 : unit0 L b k = nth (sumRow (mAt L k)) 0 * pw b (hgt (mAt L k).P - nth (dep (mAt L k).P) 0).toNat := by
      unfold unit0
      rw [unitL_nth hn1]
      rfl
    rw [e4]
    simp only [Int.mul_assoc]
    congr 1
    rw [← Int.mul_assoc, ← Int.mul_assoc, Int.mul_comm (pw b _) (nth _ _)]

end Go.Proofs.Ytfobjkdkjlbkfaa
