/- Arms that are played, plainly: the values at all places. No program stands here. -/
import Derived.Test.YtfobjkdkjlbkfaaPlayL
import Derived.Test.YtfobjkdkjlbkfaaSumL
namespace Go.Proofs.Ytfobjkdkjlbkfaa

/-- Weights gathered: what a node has is its own and its children's. -/
theorem gatY_tail {P xs : List Int} (hp : ParOk P) (hl : xs.length = P.length) : ∀ d y, y + d = xs.length - 1 → ∀ x, nth (gatY P xs y) x = nth xs x + sN (fun z => if y < z ∧ nth P z = (x : Int) then nth (gatY P xs y) z else 0) xs.length := by
  intro d
  induction d with
  | zero =>
    intro y hy x
    obtain rfl : y = xs.length - 1 := by omega
    rw [gatY_last, sN_zero, Int.add_zero]
    intro i hi
    rw [if_neg (by omega)]
  | succ d ih =>
    intro y hy x
    have h := ih (y + 1) (by omega)
    obtain ⟨p, hpy, hpl⟩ : ∃ p : Nat, nth P (y + 1) = (p : Int) ∧ p < y + 1 := by
      have := hp.up (y + 1) (by omega) (by omega)
      exact ⟨(nth P (y + 1)).toNat, by omega, by omega⟩
    have hst := gatY_step (P := P) (xs := xs) (y := y + 1) (by omega) (by omega) hpy
    rw [show y + 1 - 1 = y by omega] at hst
    have hlen := gatY_length P xs (y + 1)
    have same : ∀ z, z ≠ p → nth (gatY P xs y) z = nth (gatY P xs (y + 1)) z := fun z hz => by rw [hst, nth_set_ne (Ne.symm hz)]
    rcases Decidable.em (x = p) with rfl | hx
    · have hself : nth (gatY P xs y) x = nth (gatY P xs (y + 1)) x + nth (gatY P xs (y + 1)) (y + 1) := by rw [hst, nth_set_self (by omega)]
      rw [hself, h x, Int.add_assoc]
      congr 1
      have e : sN (fun z => if y < z ∧ nth P z = (x : Int) then nth (gatY P xs y) z else 0) xs.length =
          sN (fun z => (if y + 1 < z ∧ nth P z = (x : Int) then nth (gatY P xs (y + 1)) z else 0) + (if z = y + 1 then nth (gatY P xs (y + 1)) (y + 1) else 0)) xs.length := by
        apply sN_congr
        intro z _
        rcases Nat.lt_trichotomy z (y + 1) with h1 | rfl | h1
        · rw [if_neg (by omega), if_neg (by omega), if_neg (by omega)]
          rfl
        · rw [if_pos ⟨by omega, hpy⟩, if_neg (by omega), if_pos rfl, same (y + 1) (by omega), Int.zero_add]
        · rw [if_neg (show ¬ z = y + 1 by omega), Int.add_zero]
          by_cases hz : nth P z = (x : Int)
          · rw [if_pos ⟨by omega, hz⟩, if_pos ⟨h1, hz⟩, same z (by omega)]
          · rw [if_neg (fun h => hz h.2), if_neg (fun h => hz h.2)]
      rw [e, sN_add]
      congr 1
      rw [sN_one (k := y + 1) (by omega) (fun i _ hi => by rw [if_neg hi]), if_pos rfl]
    · rw [same x hx, h x]
      congr 1
      apply sN_congr
      intro z _
      by_cases hz : nth P z = (x : Int)
      · have hzy : z ≠ y + 1 := fun e => by rw [e, hpy] at hz; omega
        by_cases h1 : y < z
        · rw [if_pos ⟨by omega, hz⟩, if_pos ⟨h1, hz⟩, same z (by omega)]
        · rw [if_neg (by omega), if_neg (by omega)]
      · rw [if_neg (fun h => hz h.2), if_neg (fun h => hz h.2)]
theorem gath_kids {P W : List Int} (h : TreeOk P W) {x : Nat} (hx : x < P.length) (he : endB P x = false) : kS P (nth (gath P W)) x (kids P (x : Int)).length = nth (gath P W) x := by
  have hn := h.n1
  have h1 := gatY_tail h.par h.len (W.length - 1) 0 (by have := h.len; omega) x
  rw [gatY_zero] at h1
  have hw := h.wt x hx
  rw [he] at hw
  simp only [Bool.false_eq_true, if_false] at hw
  rw [hw, Int.zero_add] at h1
  rw [h1, kS_sN, h.len]
  apply sN_congr
  intro z hz
  by_cases hzx : nth P z = (x : Int)
  · have : 0 < z := by
      rcases Nat.eq_zero_or_pos z with rfl | h'
      · have := h.par.zero
        omega
      · exact h'
    rw [if_pos hzx, if_pos ⟨this, hzx⟩]
  · rw [if_neg hzx, if_neg (fun h => hzx h.2)]

def updX (X : Nat → Nat) (i y : Nat) : Nat → Nat := fun j => if j = i then y else X j
theorem updX_self (X : Nat → Nat) (i y : Nat) : updX X i y i = y := by simp [updX]
theorem updX_ne (X : Nat → Nat) {i j : Nat} (y : Nat) (h : j ≠ i) : updX X i y j = X j := by simp [updX, h]
theorem updX_same (X : Nat → Nat) (i : Nat) : updX X i (X i) = X := by
  funext j
  unfold updX
  split
  · next h => rw [h]
  · rfl
theorem prTo_congr {S : List (List Int)} {X Y : Nat → Nat} : ∀ n, (∀ i, i < n → X i = Y i) → prTo S X n = prTo S Y n
  | 0, _ => rfl
  | n + 1, h => by rw [prTo, prTo, prTo_congr n (fun i hi => h i (by omega)), h n (by omega)]
theorem suTo_congr {S : List (List Int)} {X Y : Nat → Nat} : ∀ n, (∀ i, i < n → X i = Y i) → suTo S X n = suTo S Y n
  | 0, _ => rfl
  | n + 1, h => by rw [suTo, suTo, suTo_congr n (fun i hi => h i (by omega)), h n (by omega)]
theorem prTo_upd {S : List (List Int)} {X : Nat → Nat} {i : Nat} : ∀ n, i < n → (∀ k, k < n → 0 ≤ nth (rowAt S k) (X k)) → ∃ R : Int, 0 ≤ R ∧ ∀ y, prTo S (updX X i y) n = R * nth (rowAt S i) y := by
  intro n
  induction n with
  | zero => intro h; omega
  | succ n ih =>
    intro hi hb
    rcases Nat.lt_or_ge i n with h | h
    · obtain ⟨R, hR, e⟩ := ih h fun k hk => hb k (by omega)
      refine ⟨R * nth (rowAt S n) (X n), Int.mul_nonneg hR (hb n (by omega)), fun y => ?_⟩
      rw [prTo, e y, updX_ne X y (by omega), Int.mul_assoc, Int.mul_assoc, Int.mul_comm (nth (rowAt S i) y)]
    · obtain rfl : i = n := by omega
      refine ⟨prTo S X i, ?_, fun y => ?_⟩
      · clear ih
        have : ∀ m, m ≤ i → 0 ≤ prTo S X m := by
          intro m
          induction m with
          | zero => intro _; exact (show (0 : Int) ≤ 1 by decide)
          | succ m ih => intro hm; exact Int.mul_nonneg (ih (by omega)) (hb m (by omega))
        exact this i (Nat.le_refl _)
      · rw [prTo, updX_self, prTo_congr (Y := X) i fun j hj => updX_ne X y (by omega)]
theorem suTo_upd {S : List (List Int)} {X : Nat → Nat} {i : Nat} : ∀ n, i < n → ∃ R : Int, ∀ y, suTo S (updX X i y) n = R + nth (rowAt S i) y := by
  intro n
  induction n with
  | zero => intro h; omega
  | succ n ih =>
    intro hi
    rcases Nat.lt_or_ge i n with h | h
    · obtain ⟨R, e⟩ := ih h
      exact ⟨R + nth (rowAt S n) (X n), fun y => by rw [suTo, e y, updX_ne X y (by omega)]; omega⟩
    · obtain rfl : i = n := by omega
      exact ⟨suTo S X i, fun y => by rw [suTo, updX_self, suTo_congr (Y := X) i fun j hj => updX_ne X y (by omega)]⟩

/-- The scale of what is left at the places X. -/
def scX (L : List Mkd) (b : Int) (X : Nat → Nat) : Int := prTo (rowsF sumRow L) X L.length * pw b (suTo (rowsF leftRow L) X L.length).toNat
def remX (L : List Mkd) (X : Nat → Nat) : Nat := (suTo (rowsF leftRow L) X L.length).toNat
def canX (L : List Mkd) (X : Nat → Nat) (i : Nat) : Bool := !endB (mAt L i).P (X i)
/-- Playing arm i, and going on: the first k children. -/
def aftT (L : List Mkd) (a b : Int) (V : (Nat → Nat) → Int) (X : Nat → Nat) (i k : Nat) : Int := nth (mAt L i).F (X i) * scX L b X + kS (mAt L i).P (fun y => a * V (updX X i y)) (X i) k
def aft (L : List Mkd) (a b : Int) (V : (Nat → Nat) → Int) (X : Nat → Nat) (i : Nat) : Int := aftT L a b V X i (kids (mAt L i).P (X i : Nat)).length
def besTo (L : List Mkd) (a b : Int) (V : (Nat → Nat) → Int) (X : Nat → Nat) : Nat → Int
  | 0 => 0
  | k + 1 => if canX L X k then mxI (besTo L a b V X k) (aft L a b V X k) else besTo L a b V X k
/-- A plan: none plays best; else it tells the arm, or a number below 0. -/
def stepV (L : List Mkd) (a b : Int) (pl : Option ((Nat → Nat) → Int)) (V : (Nat → Nat) → Int) (X : Nat → Nat) : Int := match pl with
  | none => besTo L a b V X L.length
  | some ch => if 0 ≤ ch X then aft L a b V X (ch X).toNat else 0
def valF (L : List Mkd) (a b : Int) (pl : Option ((Nat → Nat) → Int)) : Nat → (Nat → Nat) → Int
  | 0, _ => 0
  | m + 1, X => stepV L a b pl (valF L a b pl m) X
def valX (L : List Mkd) (a b : Int) (pl : Option ((Nat → Nat) → Int)) : (Nat → Nat) → Int := valF L a b pl 9
/-- A plan plays arms that can be played. -/
def PlOk (L : List Mkd) (pl : Option ((Nat → Nat) → Int)) : Prop := ∀ ch, pl = some ch → ∀ X, AtOk L X → 0 ≤ ch X → ch X < L.length ∧ canX L X (ch X).toNat = true
section
variable {L : List Mkd} {a b : Int} {X : Nat → Nat} {pl : Option ((Nat → Nat) → Int)}
theorem ArmsOk.arm (h : ArmsOk L a b) {i : Nat} (hi : i < L.length) : ArmOk (mAt L i).P (mAt L i).W (mAt L i).F := armB_iff.1 (h.all i hi)
theorem ArmsOk.upd (_ : ArmsOk L a b) (hX : AtOk L X) {i y : Nat} (_ : i < L.length) (hy : y < (mAt L i).P.length) : AtOk L (updX X i y) := by
  intro k hk
  rcases Decidable.em (k = i) with rfl | hne
  · rw [updX_self]; exact hy
  · rw [updX_ne X y hne]; exact hX k hk
theorem ArmsOk.rem_kid (h : ArmsOk L a b) (hX : AtOk L X) {i y : Nat} (hi : i < L.length) (hy : y < (mAt L i).P.length) (hk : nth (mAt L i).P y = (X i : Nat)) : remX L (updX X i y) + 1 = remX L X := by
  have hp := (h.arm hi).tree.par
  obtain ⟨R, e⟩ := suTo_upd (S := rowsF leftRow L) (X := X) L.length hi
  have h0 := e (X i)
  rw [updX_same] at h0
  have h1 := e y
  rw [rowsF_at hi] at h0 h1
  rw [leftRow_nth (hX i hi)] at h0
  rw [leftRow_nth hy] at h1
  have hy1 : 1 ≤ y := by
    rcases Nat.eq_zero_or_pos y with rfl | h'
    · have := hp.zero
      omega
    · exact h'
  have hlt : X i < y := by
    have := hp.up y hy1 hy
    omega
  have hd := dep_kid (P := (mAt L i).P) hy1 hy hlt hk
  have hs := ((h.scOk (h.upd hX hi hy)).su L.length (Nat.le_refl _)).1
  unfold remX
  omega
theorem ArmsOk.rem8 (h : ArmsOk L a b) (hX : AtOk L X) : remX L X ≤ 8 := by
  have : ∀ k, k ≤ L.length → suTo (rowsF leftRow L) X k ≤ hgts L k := by
    intro k
    induction k with
    | zero => intro _; exact Int.le_refl _
    | succ k ih =>
      intro hk
      have h1 := ih (by omega)
      have h2 := (h.arm (i := k) (by omega)).depth (hX k (by omega))
      rw [suTo, hgts, rowsF_at (by omega), leftRow_nth (hX k (by omega))]
      omega
  have h1 := this L.length (Nat.le_refl _)
  have h2 := h.h8
  unfold remX
  omega
theorem kid_of {P : List Int} (hp : ParOk P) {x i : Nat} (hi : i < (kids P (x : Int)).length) : (nth (kids P (x : Int)) i).toNat < P.length ∧ nth P (nth (kids P (x : Int)) i).toNat = (x : Int) := by
  obtain ⟨y, h1, _, h3, h4⟩ := kid_at hp hi
  rw [h1, Int.toNat_natCast]
  exact ⟨h3, h4⟩
theorem aft_congr {V V' : (Nat → Nat) → Int} {i : Nat} (hp : ParOk (mAt L i).P) (h : ∀ y, y < (mAt L i).P.length → nth (mAt L i).P y = (X i : Nat) → V (updX X i y) = V' (updX X i y)) : aft L a b V X i = aft L a b V' X i := by
  unfold aft aftT
  congr 1
  apply kS_congr
  intro k hk
  obtain ⟨h1, h2⟩ := kid_of hp hk
  rw [h _ h1 h2]
theorem besTo_congr {V V' : (Nat → Nat) → Int} : ∀ n, (∀ i, i < n → canX L X i = true → aft L a b V X i = aft L a b V' X i) → besTo L a b V X n = besTo L a b V' X n
  | 0, _ => rfl
  | n + 1, h => by
    rw [besTo, besTo, besTo_congr n fun i hi => h i (by omega)]
    split
    · next hc => rw [h n (by omega) hc]
    · rfl
theorem stepV_congr (h : ArmsOk L a b) (hX : AtOk L X) (hpl : PlOk L pl) {V V' : (Nat → Nat) → Int} (hv : ∀ i y, i < L.length → y < (mAt L i).P.length → nth (mAt L i).P y = (X i : Nat) → V (updX X i y) = V' (updX X i y)) : stepV L a b pl V X = stepV L a b pl V' X := by
  have ha : ∀ i, i < L.length → aft L a b V X i = aft L a b V' X i := fun i hi => aft_congr (h.arm hi).tree.par fun y hy hk => hv i y hi hy hk
  unfold stepV
  split
  · exact besTo_congr _ fun i hi _ => ha i hi
  · next ch =>
    split
    · next h0 =>
      have := hpl ch rfl X hX h0
      rw [ha _ (by omega)]
    · rfl
theorem valF_fuel (h : ArmsOk L a b) (hpl : PlOk L pl) : ∀ m m' X, AtOk L X → remX L X < m → remX L X < m' → valF L a b pl m X = valF L a b pl m' X := by
  intro m
  induction m with
  | zero => intro m' X _ h1; omega
  | succ m ih =>
    intro m' X hX h1 h2
    obtain ⟨k, rfl⟩ : ∃ k, m' = k + 1 := ⟨m' - 1, by omega⟩
    rw [valF, valF]
    refine stepV_congr h hX hpl fun i y hi hy hk => ?_
    have := h.rem_kid hX hi hy hk
    exact ih k _ (h.upd hX hi hy) (by omega) (by omega)
/-- The values' own law. -/
theorem valX_eq (h : ArmsOk L a b) (hpl : PlOk L pl) (hX : AtOk L X) : valX L a b pl X = stepV L a b pl (valX L a b pl) X := by
  show valF L a b pl (8 + 1) X = _
  rw [valF]
  refine stepV_congr h hX hpl fun i y hi hy hk => ?_
  have h1 := h.rem_kid hX hi hy hk
  have h2 := h.rem8 hX
  exact valF_fuel h hpl 8 9 _ (h.upd hX hi hy) (by omega) (by omega)
/-- Whatever obeys the law is the values. -/
theorem valX_uniq (h : ArmsOk L a b) (hpl : PlOk L pl) {V : (Nat → Nat) → Int} (hV : ∀ X, AtOk L X → V X = stepV L a b pl V X) : ∀ m X, AtOk L X → remX L X < m → V X = valX L a b pl X := by
  intro m
  induction m with
  | zero => intro X _ h1; omega
  | succ m ih =>
    intro X hX h1
    rw [hV X hX, valX_eq h hpl hX]
    refine stepV_congr h hX hpl fun i y hi hy hk => ?_
    have := h.rem_kid hX hi hy hk
    exact ih _ (h.upd hX hi hy) (by omega)
end

theorem kS_le {P : List Int} {v g : Nat → Int} {x k : Nat} (h : ∀ i, i < k → v (nth (kids P (x : Int)) i).toNat ≤ g (nth (kids P (x : Int)) i).toNat) : kS P v x k ≤ kS P g x k := by
  induction k with
  | zero => exact Int.le_refl _
  | succ k ih =>
    have h1 := ih fun i hi => h i (by omega)
    have h2 := h k (by omega)
    rw [kS, kS]
    omega
theorem kS_mul {P : List Int} (c : Int) (v : Nat → Int) (x k : Nat) : kS P (fun y => c * v y) x k = c * kS P v x k := by
  induction k with
  | zero => simp [kS]
  | succ k ih => rw [kS, kS, ih, Int.mul_add]
section
variable {L : List Mkd} {a b : Int} {X : Nat → Nat} {pl : Option ((Nat → Nat) → Int)}
theorem ArmsOk.scX_bd (h : ArmsOk L a b) (hX : AtOk L X) : 0 ≤ scX L b X ∧ scX L b X ≤ 7247757312000 := by
  have h1 := (h.scOk hX).pr L.length (Nat.le_refl _)
  have ha := h.a1
  have hb := h.ab
  have h2 := pw_bd 4 8 65536 (by decide) (show 0 ≤ b by omega) h.b4 (by decide) (k := remX L X) (h.rem8 hX)
  exact mul_bd _ _ 110592000 65536 h1.1 h1.2 h2.1 h2.2
theorem ArmsOk.scX_kids (h : ArmsOk L a b) (hX : AtOk L X) {i : Nat} (hi : i < L.length) (hc : canX L X i = true) :
    b * kS (mAt L i).P (fun y => scX L b (updX X i y)) (X i) (kids (mAt L i).P (X i : Nat)).length = scX L b X := by
  have he : endB (mAt L i).P (X i) = false := by simpa [canX] using hc
  obtain ⟨R, _, e⟩ := prTo_upd (S := rowsF sumRow L) (X := X) L.length hi fun k hk => ((h.scOk hX).bS k hk).1
  have e0 := e (X i)
  rw [updX_same, rowsF_at hi] at e0
  have hg := gath_kids (h.arm hi).tree (hX i hi) he
  have hpos : 0 < (kids (mAt L i).P (X i : Nat)).length := by
    have : kids (mAt L i).P (X i : Nat) ≠ [] := fun h' => by rw [(kids_nil _).1 h'] at he; cases he
    exact List.length_pos_iff.2 this
  have hrem : ∀ k, k < (kids (mAt L i).P (X i : Nat)).length → remX L (updX X i (nth (kids (mAt L i).P (X i : Nat)) k).toNat) + 1 = remX L X := fun k hk => by
    obtain ⟨h1, h2⟩ := kid_of (h.arm hi).tree.par hk
    exact h.rem_kid hX hi h1 h2
  have hr1 : 1 ≤ remX L X := by have := hrem 0 hpos; omega
  have key : kS (mAt L i).P (fun y => scX L b (updX X i y)) (X i) (kids (mAt L i).P (X i : Nat)).length = (R * pw b (remX L X - 1)) * kS (mAt L i).P (nth (gath (mAt L i).P (mAt L i).W)) (X i) (kids (mAt L i).P (X i : Nat)).length := by
    rw [← kS_mul]
    apply kS_congr
    intro k hk
    have h1 := hrem k hk
    have h2 : scX L b (updX X i (nth (kids (mAt L i).P (X i : Nat)) k).toNat) = prTo (rowsF sumRow L) (updX X i (nth (kids (mAt L i).P (X i : Nat)) k).toNat) L.length * pw b (remX L (updX X i (nth (kids (mAt L i).P (X i : Nat)) k).toNat)) := rfl
    rw [h2, e, rowsF_at hi, show remX L (updX X i (nth (kids (mAt L i).P (X i : Nat)) k).toNat) = remX L X - 1 by omega]
    rw [Int.mul_assoc, Int.mul_assoc, Int.mul_comm (pw b _)]
    rfl
  rw [key, hg]
  have h3 : scX L b X = prTo (rowsF sumRow L) X L.length * pw b (remX L X) := rfl
  rw [h3, e0, show remX L X = (remX L X - 1) + 1 by omega, pw_succ, show remX L X - 1 + 1 - 1 = remX L X - 1 by omega]
  generalize pw b (remX L X - 1) = q
  show b * (R * q * nth (gath (mAt L i).P (mAt L i).W) (X i)) = R * nth (sumRow (mAt L i)) (X i) * (q * b)
  rw [sumRow]
  generalize nth (gath (mAt L i).P (mAt L i).W) (X i) = r
  simp only [Int.mul_comm, Int.mul_left_comm]
theorem ArmsOk.aft_bd (h : ArmsOk L a b) (hX : AtOk L X) {V : (Nat → Nat) → Int} {M : Int} (hM : 0 ≤ M) {i : Nat} (hi : i < L.length) (hc : canX L X i = true)
    (hv : ∀ y, y < (mAt L i).P.length → nth (mAt L i).P y = (X i : Nat) → -(M * scX L b (updX X i y)) ≤ V (updX X i y) ∧ V (updX X i y) ≤ M * scX L b (updX X i y)) :
    -((99 + M) * scX L b X) ≤ aft L a b V X i ∧ aft L a b V X i ≤ (99 + M) * scX L b X := by
  have hs := h.scX_bd hX
  have hk := h.scX_kids hX hi hc
  have hp := (h.arm hi).tree.par
  have ha := h.a1
  have hb := h.ab
  have hf : -99 ≤ nth (mAt L i).F (X i) ∧ nth (mAt L i).F (X i) ≤ 99 := by
    have := (h.arm hi).len
    have := (h.arm hi).fees
    exact allB_nth this (by have := hX i hi; omega)
  have h1 : -(99 * scX L b X) ≤ nth (mAt L i).F (X i) * scX L b X ∧ nth (mAt L i).F (X i) * scX L b X ≤ 99 * scX L b X := by
    have u1 := Int.mul_le_mul_of_nonneg_right hf.2 hs.1
    have u2 := Int.mul_le_mul_of_nonneg_right hf.1 hs.1
    rw [Int.neg_mul] at u2
    exact ⟨u2, u1⟩
  have hS : 0 ≤ kS (mAt L i).P (fun y => scX L b (updX X i y)) (X i) (kids (mAt L i).P (X i : Nat)).length := by
    have : kS (mAt L i).P (fun _ => 0) (X i) (kids (mAt L i).P (X i : Nat)).length ≤ kS (mAt L i).P (fun y => scX L b (updX X i y)) (X i) (kids (mAt L i).P (X i : Nat)).length := kS_le fun k hk' => by
      obtain ⟨u1, _⟩ := kid_of hp hk'
      exact (h.scX_bd (h.upd hX hi u1)).1
    have z : ∀ n, kS (mAt L i).P (fun _ => 0) (X i) n = 0 := fun n => by
      induction n with
      | zero => rfl
      | succ n ih => rw [kS, ih]; rfl
    rw [z] at this
    exact this
  have h2 : kS (mAt L i).P (fun y => a * V (updX X i y)) (X i) (kids (mAt L i).P (X i : Nat)).length ≤ kS (mAt L i).P (fun y => a * M * scX L b (updX X i y)) (X i) (kids (mAt L i).P (X i : Nat)).length := kS_le fun k hk' => by
    obtain ⟨u1, u2⟩ := kid_of hp hk'
    rw [Int.mul_assoc]
    exact Int.mul_le_mul_of_nonneg_left (hv _ u1 u2).2 (by omega)
  have h3 : kS (mAt L i).P (fun y => -(a * M) * scX L b (updX X i y)) (X i) (kids (mAt L i).P (X i : Nat)).length ≤ kS (mAt L i).P (fun y => a * V (updX X i y)) (X i) (kids (mAt L i).P (X i : Nat)).length := kS_le fun k hk' => by
    obtain ⟨u1, u2⟩ := kid_of hp hk'
    have := Int.mul_le_mul_of_nonneg_left (hv _ u1 u2).1 (show 0 ≤ a by omega)
    rw [Int.neg_mul, Int.mul_assoc, ← Int.mul_neg]
    exact this
  rw [kS_mul (a * M)] at h2
  rw [kS_mul (-(a * M))] at h3
  have h4 : a * M * kS (mAt L i).P (fun y => scX L b (updX X i y)) (X i) (kids (mAt L i).P (X i : Nat)).length ≤ M * scX L b X := by
    rw [← hk, Int.mul_comm a M, Int.mul_assoc]
    refine Int.mul_le_mul_of_nonneg_left ?_ hM
    exact Int.mul_le_mul_of_nonneg_right (by omega) hS
  unfold aft aftT
  rw [Int.add_mul]
  rw [Int.neg_mul] at h3
  omega
theorem ArmsOk.besTo_bd (_h : ArmsOk L a b) (_hX : AtOk L X) {V : (Nat → Nat) → Int} {K : Int} (hK : 0 ≤ K) : ∀ n, n ≤ L.length → (∀ i, i < n → canX L X i = true → -K ≤ aft L a b V X i ∧ aft L a b V X i ≤ K) → 0 ≤ besTo L a b V X n ∧ besTo L a b V X n ≤ K := by
  intro n
  induction n with
  | zero => intro _ _; exact ⟨Int.le_refl _, hK⟩
  | succ n ih =>
    intro hn hv
    have h1 := ih (by omega) fun i hi => hv i (by omega)
    rw [besTo]
    split
    · next hc =>
      have h2 := hv n (by omega) hc
      unfold mxI
      split <;> omega
    · exact h1
theorem valF_bd (h : ArmsOk L a b) (hpl : PlOk L pl) : ∀ (m : Nat) X, AtOk L X → -(99 * (m : Int) * scX L b X) ≤ valF L a b pl m X ∧ valF L a b pl m X ≤ 99 * (m : Int) * scX L b X := by
  intro m
  induction m with
  | zero => intro X _; simp [valF]
  | succ m ih =>
    intro X hX
    have hs := h.scX_bd hX
    have hM : (0 : Int) ≤ 99 * (m : Int) := by omega
    have ha : ∀ i, i < L.length → canX L X i = true → -((99 + 99 * (m : Int)) * scX L b X) ≤ aft L a b (valF L a b pl m) X i ∧ aft L a b (valF L a b pl m) X i ≤ (99 + 99 * (m : Int)) * scX L b X :=
      fun i hi hc => h.aft_bd hX hM hi hc fun y hy hk => ih _ (h.upd hX hi hy)
    have e : 99 * ((m + 1 : Nat) : Int) = 99 + 99 * (m : Int) := by omega
    have hK : 0 ≤ (99 + 99 * (m : Int)) * scX L b X := Int.mul_nonneg (by omega) hs.1
    rw [e, valF]
    unfold stepV
    split
    · have := h.besTo_bd hX (V := valF L a b none m) hK L.length (Nat.le_refl _) (by simpa using ha)
      omega
    · next ch =>
      split
      · next h0 =>
        have := hpl ch rfl X hX h0
        exact ha _ (by omega) this.2
      · omega
theorem valX_bd (h : ArmsOk L a b) (hpl : PlOk L pl) (hX : AtOk L X) : -6457751764992000 ≤ valX L a b pl X ∧ valX L a b pl X ≤ 6457751764992000 := by
  have h1 := valF_bd h hpl 9 X hX
  have h2 := h.scX_bd hX
  unfold valX
  omega
theorem aftT_bd (h : ArmsOk L a b) (hpl : PlOk L pl) (hX : AtOk L X) {i k : Nat} (hi : i < L.length) (hk : k ≤ (kids (mAt L i).P (X i : Nat)).length) : -200000000000000000 ≤ aftT L a b (valX L a b pl) X i k ∧ aftT L a b (valX L a b pl) X i k ≤ 200000000000000000 := by
  have hs := h.scX_bd hX
  have hp := (h.arm hi).tree.par
  have ha := h.a1
  have hb := h.ab
  have h4 := h.b4
  have hf : -99 ≤ nth (mAt L i).F (X i) ∧ nth (mAt L i).F (X i) ≤ 99 := by
    have := (h.arm hi).len
    have := (h.arm hi).fees
    exact allB_nth this (by have := hX i hi; omega)
  have h1 : -(99 * scX L b X) ≤ nth (mAt L i).F (X i) * scX L b X ∧ nth (mAt L i).F (X i) * scX L b X ≤ 99 * scX L b X := by
    have u1 := Int.mul_le_mul_of_nonneg_right hf.2 hs.1
    have u2 := Int.mul_le_mul_of_nonneg_right hf.1 hs.1
    rw [Int.neg_mul] at u2
    exact ⟨u2, u1⟩
  have h2 : -(19373255294976000 * (k : Int)) ≤ kS (mAt L i).P (fun y => a * valX L a b pl (updX X i y)) (X i) k ∧ kS (mAt L i).P (fun y => a * valX L a b pl (updX X i y)) (X i) k ≤ 19373255294976000 * (k : Int) := kS_abs fun j hj => by
    obtain ⟨u1, u2⟩ := kid_of hp (Nat.lt_of_lt_of_le hj hk)
    have u3 := valX_bd h hpl (h.upd hX hi u1)
    have := mulAbs (x := valX L a b pl (updX X i (nth (kids (mAt L i).P (X i : Nat)) j).toNat)) (y := a) (A := 6457751764992000) (B := 3) u3 ⟨by omega, by omega⟩ (by decide)
    rw [Int.mul_comm] at this
    rw [Int.mul_comm a]
    omega
  have h3 : (kids (mAt L i).P (X i : Nat)).length ≤ 9 := by
    have := kidTo_len (mAt L i).P (X i : Nat) (mAt L i).P.length
    have := (h.arm hi).n9
    unfold kids
    omega
  unfold aftT
  omega
end
theorem aftT_next (L : List Mkd) (a b : Int) (V : (Nat → Nat) → Int) (X : Nat → Nat) (i k y : Nat) (h : nth (kids (mAt L i).P (X i : Nat)) k = (y : Int)) : aftT L a b V X i (k + 1) = aftT L a b V X i k + a * V (updX X i y) := by
  unfold aftT
  rw [kS, h, Int.toNat_natCast, Int.add_assoc]
end Go.Proofs.Ytfobjkdkjlbkfaa
