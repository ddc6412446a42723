/- Rules for taking the best one of some people: both ways of counting, plainly, and that they count alike up to seven people (by running both). No program stands here. -/
import Derived.Test.YtjnllbmknblecaaBase
namespace Go.Proofs.Ytjnllbmknblecaa

def memN : List Nat → Nat → Bool
  | [], _ => false
  | x :: l, k => bif Nat.beq x k then true else memN l k
/-- What a rule takes from a whole order, from place i on: 1 if the best one. b: one more than the best one so far, 0 ahead of the first. -/
def sFin (n r : Nat) : List Nat → Nat → Nat → Nat
  | [], _, _ => 0
  | x :: l, i, b => bif Nat.ble r i && (Nat.ble b x || Nat.beq (i + 1) n) then (bif Nat.beq (x + 1) n then 1 else 0) else sFin n r l (i + 1) (bif Nat.ble b x then x + 1 else b)
/-- A sum over the numbers below k that are not in a list. -/
def sumO (b : List Nat) (f : Nat → Nat) : Nat → Nat
  | 0 => 0
  | k + 1 => bif memN b k then sumO b f k else sumO b f k + f k
/-- Lists are told from their last one on. -/
def sW (n r : Nat) : Nat → List Nat → Nat
  | 0, b => sFin n r b.reverse 0 0
  | m + 1, b => sumO b (fun x => sW n r m (x :: b)) n
def facT : Nat → Nat
  | 0 => 1
  | k + 1 => (k + 1) * facT k
def leAll (x : Nat) : List Nat → Bool
  | [] => true
  | y :: l => bif Nat.ble x y then leAll x l else false
def ldef : List Nat → Nat
  | [] => 0
  | x :: _ => x
def iW (n r : Nat) : Nat → List Nat → Nat
  | 0, b => bif Nat.beq (ldef b) 0 then 1 else 0
  | m + 1, b => bif Nat.ble (r + 1 + (m + 1)) n && leAll (ldef b) b then (bif Nat.beq (ldef b) 0 then facT (m + 1) else 0) else sumO b (fun x => iW n r m (x :: b)) n
def cwOk (n r : Nat) : Bool := Nat.beq (sW n r n []) (iW n r n [])
theorem memN_iff {b : List Nat} {x : Nat} : memN b x = true ↔ x ∈ b := by
  induction b with
  | nil => simp [memN]
  | cons y l ih =>
    rw [memN]
    cases h : Nat.beq y x
    · have : y ≠ x := fun e => by subst e; simp at h
      simp [ih, Ne.symm this]
    · have : y = x := Nat.eq_of_beq_eq_true h
      simp [this]
theorem leAll_iff {x : Nat} {b : List Nat} : leAll x b = true ↔ ∀ y, y ∈ b → x ≤ y := by
  induction b with
  | nil => simp [leAll]
  | cons y l ih =>
    rw [leAll]
    cases h : Nat.ble x y
    · have : ¬ x ≤ y := fun e => by rw [Nat.ble_eq_true_of_le e] at h; cases h
      simp [this]
    · have : x ≤ y := Nat.le_of_ble_eq_true h
      simp [ih, this]
theorem sumO_bd {b : List Nat} {f : Nat → Nat} {M : Nat} (k : Nat) (h : ∀ x, x < k → f x ≤ M) : sumO b f k ≤ k * M := by
  induction k with
  | zero => simp [sumO]
  | succ k ih =>
    have ih := ih fun x hx => h x (by omega)
    have := h k (by omega)
    rw [sumO, Nat.add_mul, Nat.one_mul]
    cases memN b k
    · show sumO b f k + f k ≤ _
      omega
    · show sumO b f k ≤ _
      omega
theorem sFin_bd (n r : Nat) (l : List Nat) : ∀ i b, sFin n r l i b ≤ 1 := by
  induction l with
  | nil => intro i b; simp [sFin]
  | cons x l ih =>
    intro i b
    rw [sFin]
    cases Nat.ble r i && (Nat.ble b x || Nat.beq (i + 1) n)
    · exact ih _ _
    · show (bif Nat.beq (x + 1) n then 1 else 0) ≤ 1
      cases Nat.beq (x + 1) n <;> simp
theorem sW_bd (n r : Nat) : ∀ m b, sW n r m b ≤ n ^ m := by
  intro m
  induction m with
  | zero => intro b; exact sFin_bd _ _ _ _ _
  | succ m ih =>
    intro b
    rw [sW, Nat.pow_succ, Nat.mul_comm]
    exact sumO_bd n fun x _ => ih _
theorem facT_bd (m : Nat) : facT m ≤ m ^ m := by
  induction m with
  | zero => simp [facT]
  | succ m ih =>
    rw [facT, Nat.pow_succ, Nat.mul_comm]
    exact Nat.mul_le_mul_right _ (Nat.le_trans ih (Nat.pow_le_pow_left (by omega) _))
theorem iW_bd (n r : Nat) : ∀ m b, m ≤ n → iW n r m b ≤ n ^ m := by
  intro m
  induction m with
  | zero =>
    intro b _
    rw [iW]
    cases Nat.beq (ldef b) 0 <;> simp
  | succ m ih =>
    intro b hm
    rw [iW]
    cases Nat.ble (r + 1 + (m + 1)) n && leAll (ldef b) b
    · show sumO b (fun x => iW n r m (x :: b)) n ≤ _
      rw [Nat.pow_succ, Nat.mul_comm]
      exact sumO_bd n fun x _ => ih _ (by omega)
    · show (bif Nat.beq (ldef b) 0 then facT (m + 1) else 0) ≤ _
      cases Nat.beq (ldef b) 0
      · exact Nat.zero_le _
      · exact Nat.le_trans (facT_bd _) (Nat.pow_le_pow_left hm _)
theorem pow7 {n m : Nat} (hn : n ≤ 7) (hm : m ≤ 7) : n ^ m ≤ 823543 :=
  Nat.le_trans (Nat.pow_le_pow_left hn m) (Nat.le_trans (Nat.pow_le_pow_right (by decide) hm) (by decide))
theorem sumO_in {b : List Nat} {f : Nat → Nat} {k : Nat} (h : memN b k = true) : sumO b f (k + 1) = sumO b f k := by rw [sumO, h]; rfl
theorem sumO_out {b : List Nat} {f : Nat → Nat} {k : Nat} (h : memN b k = false) : sumO b f (k + 1) = sumO b f k + f k := by rw [sumO, h]; rfl
theorem sumO_mono {b : List Nat} {f : Nat → Nat} {M k : Nat} (h : ∀ x, f x ≤ M) (hk : k ≤ 7) : sumO b f k ≤ 7 * M :=
  Nat.le_trans (sumO_bd k fun x _ => h x) (Nat.mul_le_mul_right _ hk)
theorem beq_no {a b : Nat} (h : ¬ a = b) : Nat.beq a b = false := by
  cases hb : Nat.beq a b
  · rfl
  · exact absurd (Nat.eq_of_beq_eq_true hb) h
theorem sFin_stop {n r i b x : Nat} {l : List Nat} (h : r ≤ i) (h2 : b ≤ x ∨ i + 1 = n) : sFin n r (x :: l) i b = if x + 1 = n then 1 else 0 := by
  have e : (Nat.ble r i && (Nat.ble b x || Nat.beq (i + 1) n)) = true := by
    rw [Nat.ble_eq_true_of_le h, Bool.true_and, Bool.or_eq_true]
    rcases h2 with h2 | h2
    · exact .inl (Nat.ble_eq_true_of_le h2)
    · exact .inr (by rw [h2]; simp)
  rw [sFin, e]
  show (bif Nat.beq (x + 1) n then 1 else 0) = _
  by_cases hx : x + 1 = n
  · rw [if_pos hx, hx]; simp
  · rw [if_neg hx, beq_no hx]; rfl
theorem sFin_go {n r i b x : Nat} {l : List Nat} (h : ¬ (r ≤ i ∧ (b ≤ x ∨ i + 1 = n))) : sFin n r (x :: l) i b = sFin n r l (i + 1) (if b ≤ x then x + 1 else b) := by
  have e : (Nat.ble r i && (Nat.ble b x || Nat.beq (i + 1) n)) = false := by
    by_cases h1 : r ≤ i
    · have h2 : ¬ b ≤ x := fun h3 => h ⟨h1, .inl h3⟩
      have h3 : ¬ i + 1 = n := fun h4 => h ⟨h1, .inr h4⟩
      have e2 : Nat.ble b x = false := by
        cases hb : Nat.ble b x
        · rfl
        · exact absurd (Nat.le_of_ble_eq_true hb) h2
      rw [e2, beq_no h3, Bool.or_false, Bool.and_false]
    · have e2 : Nat.ble r i = false := by
        cases hb : Nat.ble r i
        · rfl
        · exact absurd (Nat.le_of_ble_eq_true hb) h1
      rw [e2, Bool.false_and]
  rw [sFin, e]
  show sFin n r l (i + 1) (bif Nat.ble b x then x + 1 else b) = _
  by_cases hx : b ≤ x
  · rw [if_pos hx, Nat.ble_eq_true_of_le hx]; rfl
  · have e2 : Nat.ble b x = false := by
      cases hb : Nat.ble b x
      · rfl
      · exact absurd (Nat.le_of_ble_eq_true hb) hx
    rw [if_neg hx, e2]; rfl
theorem iW_take {n r m : Nat} {b : List Nat} (h1 : r + m < n) (h2 : m = 0 ∨ leAll (ldef b) b = true) : iW n r m b = if ldef b = 0 then facT m else 0 := by
  have hz : (bif Nat.beq (ldef b) 0 then facT m else 0) = if ldef b = 0 then facT m else 0 := by
    by_cases hx : ldef b = 0
    · rw [if_pos hx, hx]; rfl
    · rw [if_neg hx, beq_no hx]; rfl
  rcases m with _ | m
  · rw [← hz]; rfl
  · rw [← hz, iW, Nat.ble_eq_true_of_le (by omega), Bool.true_and]
    rcases h2 with h2 | h2
    · omega
    · rw [h2]; rfl
theorem iW_go {n r m : Nat} {b : List Nat} (h : ¬ (r + (m + 1) < n ∧ leAll (ldef b) b = true)) : iW n r (m + 1) b = sumO b (fun x => iW n r m (x :: b)) n := by
  have e : (Nat.ble (r + 1 + (m + 1)) n && leAll (ldef b) b) = false := by
    cases hb : Nat.ble (r + 1 + (m + 1)) n
    · rfl
    · have := Nat.le_of_ble_eq_true hb
      cases hl : leAll (ldef b) b
      · rfl
      · exact absurd ⟨by omega, hl⟩ h
  rw [iW, e]; rfl
end Go.Proofs.Ytjnllbmknblecaa
