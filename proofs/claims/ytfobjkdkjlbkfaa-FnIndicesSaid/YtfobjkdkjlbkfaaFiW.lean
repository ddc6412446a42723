/- The law FnIndices: plainly, and its walk from the end to the start. -/
import Derived.Test.YtfobjkdkjlbkfaaGtL
import Derived.Test.YtfobjkdkjlbkfaaChA
import Derived.Test.YtfobjkdkjlbkfaaPgA
import Derived.Test.YtfobjkdkjlbkfaaDrL
import Derived.Test.YtfobjkdkjlbkfaaVw
import Derived.Test.YtfobjkdkjlbkfaaLvA
import Derived.Test.YtfobjkdkjlbkfaaPyA
namespace Go.Proofs.Ytfobjkdkjlbkfaa
open Go.RowKit

section
variable {P W F : List Int} {a b : Int}
theorem gn99 (h : ArmAB P W F a b) (i : Nat → Bool) (x : Nat) : gnR P W F a b i x ≤ 99 * tmR P W a b i x ∧ -(99 * tmR P W a b i x) ≤ gnR P W F a b i x := by
  have h1 := tot_lin (P := P) (W := W) (F := F) (a := a) (b := b) i 99 1 x
  have h2 := tot_lin (P := P) (W := W) (F := F) (a := a) (b := b) i (-99) 1 x
  have n1 : 0 ≤ tot P a i (fun y => (1 * nth F y - -99) * unitX P W b y) x := sN_nn fun y hy => by
    split
    · exact Int.mul_nonneg (h.a81 hy).1 (Int.mul_nonneg (by have := h.arm.fb y; omega) (unitX_46 h.arm h.b0 h.b4 hy).1)
    · exact Int.le_refl _
  have n2 : 0 ≤ tot P a i (fun y => (1 * nth F y - -99) * unitX P W b y) x + (-1) * tot P a i (fun y => (1 * nth F y - -99) * unitX P W b y) x + (-1) * tot P a i (fun y => (1 * nth F y - 99) * unitX P W b y) x := by
    have e : (-1) * tot P a i (fun y => (1 * nth F y - 99) * unitX P W b y) x = sN (fun y => (-1) * (if rch P i x y = true then pw a (dpN P y - dpN P x) * ((1 * nth F y - 99) * unitX P W b y) else 0)) P.length := by rw [sN_mul]; rfl
    have : 0 ≤ sN (fun y => (-1) * (if rch P i x y = true then pw a (dpN P y - dpN P x) * ((1 * nth F y - 99) * unitX P W b y) else 0)) P.length := sN_nn fun y hy => by
      split
      · have k1 := Int.mul_nonneg (h.a81 (x := x) hy).1 (Int.mul_nonneg (show 0 ≤ 99 - nth F y by have := h.arm.fb y; omega) (unitX_46 h.arm h.b0 h.b4 hy).1)
        have e2 : ∀ p f u : Int, (-1) * (p * ((1 * f - 99) * u)) = p * ((99 - f) * u) := fun p f u => by grind
        rw [e2]
        exact k1
      · exact Int.le_refl _
    omega
  omega
theorem idx99 (h : ArmAB P W F a b) {x : Nat} (hx : x < P.length) : (idxP P W F a b x).1 ≤ 99 * (idxP P W F a b x).2 ∧ -(99 * (idxP P W F a b x).2) ≤ (idxP P W F a b x).1 := by
  cases he : endB P x with
  | true => rw [idx_end he]; decide
  | false =>
    obtain ⟨i, _, e⟩ := idx_mem h hx he
    rw [e]
    have h1 := prI_gt h hx i (p := 99) (q := 1)
    have h2 := prI_ge h hx i (p := -99) (q := 1)
    have h3 := gn99 h i x
    omega
variable {S : List Int}
theorem idx_set (h : ArmAB P W F a b) {x : Nat} (hx : x < P.length) (he : endB P x = false) {i : Nat → Bool} (hi : ∀ z, i z = true → neB P z = true) : gnR P W F a b i x * (idxP P W F a b x).2 ≤ (idxP P W F a b x).1 * tmR P W a b i x := by
  have h1 := less_no.1 (idx_max h hx he hi)
  have h2 := prI_gt h hx i (p := (idxP P W F a b x).1) (q := (idxP P W F a b x).2)
  rcases Int.lt_or_le ((idxP P W F a b x).1 * tmR P W a b i x) (gnR P W F a b i x * (idxP P W F a b x).2) with hn | hn
  · have := h2.2 (by rw [Int.mul_comm (idxP P W F a b x).2]; omega)
    omega
  · exact hn
theorem pg_set (h : pgB P W F a b S = true) : ArmAB P W F a b ∧ endB P 0 = false ∧ ∃ i : Nat → Bool, (∀ z, i z = true → neB P z = true) ∧ S = rL P i 0 P.length := by
  simp only [pgB, Bool.and_eq_true, decide_eq_true_eq] at h
  have hA := armAB_iff.1 (by simp only [Bool.and_eq_true]; exact h.1)
  have hn : 0 < P.length := by have := hA.arm.tree.n1; omega
  have he : endB P 0 = false := by
    cases he : endB P 0 with
    | false => rfl
    | true =>
      have := h.2
      rw [sts, he] at this
      cases this
  obtain ⟨i, hi, e⟩ := (mem_sts hA.arm.tree.par hn he S).1 h.2
  exact ⟨hA, he, i, fun z hz => neB_iff.2 (hi z hz), e⟩
/-- No playing in a set has a greater quotient than the index. -/
theorem play_law (h : pgB P W F a b S = true) : (pgF P W F a b S).1 * (idxP P W F a b 0).2 * (pgG P W F a b S).2 ≤ (idxP P W F a b 0).1 * (pgG P W F a b S).1 * (pgF P W F a b S).2 := by
  obtain ⟨hA, he, i, hi, e⟩ := pg_set h
  have hn : 0 < P.length := by have := hA.arm.tree.n1; omega
  rw [(pg_yes h).1, (pg_yes h).2]
  subst e
  have R := pg_ref hA i
  rw [R.1, R.2]
  have hu := unitX_pos hA.arm (b := b) (by have := hA.a1; have := hA.ab; omega) hn
  have hs := idx_set hA hn he hi
  have c1 := cut_mul (gnR P W F a b i 0) (unitX P W b 0)
  have c2 := cut_mul (tmR P W a b i 0) (unitX P W b 0)
  have g1 := gI_pos (a := gnR P W F a b i 0) (b := unitX P W b 0) (by omega)
  have g2 := gI_pos (a := tmR P W a b i 0) (b := unitX P W b 0) (by omega)
  show cutT (gnR P W F a b i 0) (unitX P W b 0) * (idxP P W F a b 0).2 * cutB (tmR P W a b i 0) (unitX P W b 0) ≤ (idxP P W F a b 0).1 * cutT (tmR P W a b i 0) (unitX P W b 0) * cutB (gnR P W F a b i 0) (unitX P W b 0)
  clear R h
  generalize cutT (gnR P W F a b i 0) (unitX P W b 0) = t1 at *
  generalize cutB (gnR P W F a b i 0) (unitX P W b 0) = b1 at *
  generalize cutT (tmR P W a b i 0) (unitX P W b 0) = t2 at *
  generalize cutB (tmR P W a b i 0) (unitX P W b 0) = b2 at *
  generalize gI (gnR P W F a b i 0) (unitX P W b 0) = m1 at *
  generalize gI (tmR P W a b i 0) (unitX P W b 0) = m2 at *
  generalize gnR P W F a b i 0 = G at *
  generalize tmR P W a b i 0 = T at *
  generalize unitX P W b 0 = u at *
  generalize (idxP P W F a b 0).1 = p at *
  generalize (idxP P W F a b 0).2 = q at *
  have k1 : t1 * q * b2 * (m1 * m2) = G * q * u := by
    obtain ⟨e1, e2⟩ := c1
    obtain ⟨e3, e4⟩ := c2
    calc t1 * q * b2 * (m1 * m2) = (t1 * m1) * q * (b2 * m2) := by grind
      _ = G * q * u := by rw [e1, e4]
  have k2 : p * t2 * b1 * (m1 * m2) = p * T * u := by
    obtain ⟨e1, e2⟩ := c1
    obtain ⟨e3, e4⟩ := c2
    calc p * t2 * b1 * (m1 * m2) = p * (t2 * m2) * (b1 * m1) := by grind
      _ = p * T * u := by rw [e2, e3]
  have k3 := Int.mul_le_mul_of_nonneg_right hs (show 0 ≤ u by omega)
  rw [← k1, ← k2] at k3
  exact Int.le_of_mul_le_mul_right k3 (Int.mul_pos g1 g2)
theorem play_bd (h : pgB P W F a b S = true) : (-41057280 ≤ (pgF P W F a b S).1 ∧ (pgF P W F a b S).1 ≤ 41057280) ∧ (0 < (pgF P W F a b S).2 ∧ (pgF P W F a b S).2 ≤ 46080) ∧ (-414720 ≤ (pgG P W F a b S).1 ∧ (pgG P W F a b S).1 ≤ 414720) ∧ (0 < (pgG P W F a b S).2 ∧ (pgG P W F a b S).2 ≤ 46080) := by
  obtain ⟨hA, he, i, hi, e⟩ := pg_set h
  have hD := pgD_bd hA
  rw [(pg_yes h).1, (pg_yes h).2]
  have hm : ∀ k, k < S.length → (nth S k).toNat < P.length := fun k hk => by subst e; exact rL_in i 0 P.length k hk
  have hl : S.length ≤ 9 := by
    have := rL_len (P := P) i 0 P.length
    rw [← e] at this
    have := hA.arm.n9
    omega
  have h1 := gnT_bd (W := W) (F := F) (a := a) (b := b) hA.arm hA.a1 hA.ab hA.b4 hm S.length (Nat.le_refl _) (x := 0)
  have h2 := tmT_bd (W := W) (F := F) (a := a) (b := b) hA.arm hA.a1 hA.ab hA.b4 hm S.length (Nat.le_refl _) (x := 0)
  have e1 : gnA P W F a b 0 S = gnT P W F a b 0 S S.length := rfl
  have e2 : tmA P W a b 0 S = tmT P W a b 0 S S.length := rfl
  refine ⟨cutT_bd (by omega) (by omega) (by omega), cutB_bd (by omega) hD.2, cutT_bd (by omega) (by omega) (by omega), cutB_bd (by omega) hD.2⟩
/-- What the law asks of each node. -/
theorem wt_endF (h : ArmAB P W F a b) {x : Nat} (hx : x < P.length) : (0 < nth W x) = (endB P x = true) := by
  have := h.arm.tree.wt x hx
  cases he : endB P x <;> rw [he] at this <;> simp at this ⊢ <;> omega
theorem fi_fee (h : ArmAB P W F a b) {x : Nat} (hx : x < P.length) (he : endB P x = false) : decide ((idxP P W F a b x).1 * 1 < nth F x * (idxP P W F a b x).2) = false := by
  have h1 := lsP_iff h hx he (p := nth F x) (q := 1) (by decide)
  have h2 := lsP_rec (W := W) (F := F) (a := a) (b := b) h.arm.tree.par (p := nth F x) (q := 1) hx
  have h3 : 0 ≤ a * kS P (lpP P W F a b (nth F x) 1) x (kids P (x : Int)).length := Int.mul_nonneg (by have := h.a1; omega) (kS_nn fun i _ => lpP_nn _ _ _)
  have e : (1 * nth F x - nth F x) * unitX P W b x = 0 := by rw [Int.one_mul, Int.sub_self, Int.zero_mul]
  have := h1.1 (by omega)
  exact decide_eq_false (by omega)
theorem fi_charge (h : ArmAB P W F a b) {x : Nat} (hx : x < P.length) (he : endB P x = false) : decide ((idxP P W F a b x).1 * (cgX P W F a b x).2 < (cgX P W F a b x).1 * (idxP P W F a b x).2) = false := by
  rcases Nat.eq_zero_or_pos x with rfl | h0
  · rw [cgX_zero]; exact decide_eq_false (by omega)
  · obtain ⟨p, hp, hlt⟩ := par_of h.arm.tree.par h0 hx
    rw [cgX_in h.arm.tree.par hx (by omega) he hp]
    split
    · next hl =>
      have hl : (cgX P W F a b p).1 * (idxP P W F a b x).2 < (idxP P W F a b x).1 * (cgX P W F a b p).2 := of_decide_eq_true hl
      exact decide_eq_false (by omega)
    · exact decide_eq_false (by omega)
theorem fi_parent (h : ArmAB P W F a b) {x p : Nat} (hx : x < P.length) (h0 : x ≠ 0) (he : endB P x = false) (hp : nth P x = (p : Int)) : decide ((cgX P W F a b p).1 * (cgX P W F a b x).2 < (cgX P W F a b x).1 * (cgX P W F a b p).2) = false := by
  rw [cgX_in h.arm.tree.par hx h0 he hp]
  split
  · exact decide_eq_false (by omega)
  · next hl =>
    have hl : lessP (cgX P W F a b p) (idxP P W F a b x) = false := by simpa using hl
    have hl : ¬ ((cgX P W F a b p).1 * (idxP P W F a b x).2 < (idxP P W F a b x).1 * (cgX P W F a b p).2) := of_decide_eq_false hl
    exact decide_eq_false hl
/-- Fair fees. -/
theorem fair_law {fee : Int} (h : fvB P W F a b fee = true) : ArmAB P W F a b ∧ (-99 ≤ fee ∧ fee ≤ 99) ∧ fvV P W F a b fee = !decide ((idxP P W F a b 0).1 * 1 < fee * (idxP P W F a b 0).2) := by
  simp only [fvB, Bool.and_eq_true, Bool.not_eq_true'] at h
  have hA := armAB_iff.1 (by simp only [Bool.and_eq_true]; exact h.1)
  refine ⟨hA, inB_iff.1 h.2.1, ?_⟩
  rw [fvV_y (by simp only [Bool.and_eq_true]; exact h.1) h.2.1 h.2.2, fair_iff hA h.2.2]
  by_cases hl : (idxP P W F a b 0).1 * 1 < fee * (idxP P W F a b 0).2
  · rw [decide_eq_true hl, decide_eq_false (by omega)]; rfl
  · rw [decide_eq_false hl, decide_eq_true (by omega)]; rfl
/-- Leaving. -/
theorem leave_eq (h : ArmAB P W F a b) (l : Int) : ∀ n x, x < P.length → P.length ≤ x + n → b * (lV P F (unitL P W b) a l x - l * unitX P W b x) = lpP P W F a b (l * (b - a)) b x
  | 0, x, hx, hn => by omega
  | n + 1, x, hx, hn => by
    have hp := h.arm.tree.par
    rw [lV_eq hp hx, unitL_nth hx]
    cases he : endB P x with
    | true => rw [lpP_end he]; simp
    | false =>
      have hu := unit_kids (b := b) h.arm hx he
      have hr := lsP_rec (W := W) (F := F) (a := a) (b := b) hp (p := l * (b - a)) (q := b) hx
      have hk : b * kS P (fun y => a * lV P F (unitL P W b) a l y) x (kids P (x : Int)).length = a * kS P (lpP P W F a b (l * (b - a)) b) x (kids P (x : Int)).length + a * l * unitX P W b x := by
        have e1 : b * kS P (fun y => a * lV P F (unitL P W b) a l y) x (kids P (x : Int)).length = kS P (fun y => a * lpP P W F a b (l * (b - a)) b y + (a * l) * (b * unitX P W b y)) x (kids P (x : Int)).length := by
          rw [← kS_mul]
          apply kS_congr
          intro i hi
          obtain ⟨y, e, hxy, hy, _⟩ := kid_at hp hi
          rw [e, Int.toNat_natCast, ← leave_eq h l n y hy (by omega)]
          grind
        rw [e1, kS_add2, kS_mul, kS_mul, kS_mul, hu]
      have hb : 0 < b := by have := h.a1; have := h.ab; omega
      rw [lpP_in he]
      have e2 : b * (nth F x * unitX P W b x + kS P (fun y => a * lV P F (unitL P W b) a l y) x (kids P (x : Int)).length - l * unitX P W b x) = lsP P W F a b (l * (b - a)) b x := by
        rw [hr]
        generalize kS P (fun y => a * lV P F (unitL P W b) a l y) x (kids P (x : Int)).length = K at *
        generalize kS P (lpP P W F a b (l * (b - a)) b) x (kids P (x : Int)).length = S at *
        generalize unitX P W b x = u at *
        grind
      simp only [Bool.false_eq_true, if_false]
      generalize nth F x * unitX P W b x + kS P (fun y => a * lV P F (unitL P W b) a l y) x (kids P (x : Int)).length = on at *
      generalize l * unitX P W b x = lu at *
      unfold mxI
      split
      · next h1 =>
        have : b * (on - lu) < 0 := Int.mul_neg_of_pos_of_neg hb (by omega)
        rw [if_neg (by omega), Int.sub_self, Int.mul_zero]
      · next h1 =>
        have : 0 ≤ b * (on - lu) := Int.mul_nonneg (by omega) (by omega)
        split <;> omega
/-- Leaving is worth no less than the scale's part, and more just if the index is above what is paid for each step. -/
theorem leave_law {l : Int} (h : lvB P W F a b l = true) : ArmAB P W F a b ∧ (-99 ≤ l ∧ l ≤ 99) ∧ lvV P W F a b l = lV P F (unitL P W b) a l 0 ∧ l * unitX P W b 0 ≤ lV P F (unitL P W b) a l 0 ∧
    (endB P 0 = true → decide (l * unitX P W b 0 < lV P F (unitL P W b) a l 0) = false) ∧
    (endB P 0 = false → decide (l * unitX P W b 0 < lV P F (unitL P W b) a l 0) = decide (l * (b - a) * (idxP P W F a b 0).2 < (idxP P W F a b 0).1 * b)) := by
  have hh := h
  simp only [lvB, Bool.and_eq_true] at h
  have hA := armAB_iff.1 (by simp only [Bool.and_eq_true]; exact h.1)
  have hn : 0 < P.length := by have := hA.arm.tree.n1; omega
  have hb : 0 < b := by have := hA.a1; have := hA.ab; omega
  have e := leave_eq hA l P.length 0 hn (by omega)
  have h0 := lpP_nn (P := P) (W := W) (F := F) (a := a) (b := b) (l * (b - a)) b 0
  have hv : ∀ z : Int, b * z = lpP P W F a b (l * (b - a)) b 0 → 0 ≤ z ∧ (0 < z ↔ 0 < lpP P W F a b (l * (b - a)) b 0) := fun z hz => by
    rcases Int.lt_trichotomy z 0 with h1 | h1 | h1
    · have := Int.mul_neg_of_pos_of_neg hb h1
      omega
    · subst h1; simp at hz; omega
    · have := Int.mul_pos hb h1
      omega
  have hz := hv _ e
  refine ⟨hA, inB_iff.1 h.2, lvV_yes hh, by omega, fun he => decide_eq_false ?_, fun he => ?_⟩
  · rw [lpP_end he] at hz
    omega
  · have h2 := lsP_pos hA hn he (p := l * (b - a)) (q := b) hb
    rw [lpP_in he] at hz
    have h3 : (0 < mxI (lsP P W F a b (l * (b - a)) b 0) 0) ↔ (0 < lsP P W F a b (l * (b - a)) b 0) := by unfold mxI; split <;> omega
    by_cases hl : l * (b - a) * (idxP P W F a b 0).2 < (idxP P W F a b 0).1 * b
    · rw [decide_eq_true hl]
      exact decide_eq_true (by have := h2.2 hl; omega)
    · rw [decide_eq_false hl]
      apply decide_eq_false
      intro hc
      exact hl (h2.1 (h3.1 (hz.2.1 (by omega))))
theorem scale_one (h : ArmAB P W F a b) : armsB [⟨P, W, F⟩] a b = true ∧ scV [⟨P, W, F⟩] a b = unitX P W b 0 := by
  have hn : 0 < P.length := by have := h.arm.tree.n1; omega
  have ha : armsB [⟨P, W, F⟩] a b = true := by
    refine armsB_iff.2 ⟨by simp, h.a1, h.ab, h.b4, fun j hj => ?_, ?_⟩
    · obtain rfl : j = 0 := by simpa using hj
      exact armB_iff.2 h.arm
    · show hgts [⟨P, W, F⟩] 1 ≤ 8
      have := h.arm.h4
      show 0 + hgt P ≤ 8
      omega
  refine ⟨ha, ?_⟩
  rw [scV_yes ha]
  show (1 : Int) * nth (unitL P W b) 0 = _
  rw [unitL_nth hn, Int.one_mul]
end

theorem nameI {α : Type} (a : α) : ∃ b, a = b := ⟨a, rfl⟩
theorem headCells {w : World} {A : Option Addr} {l : List (Int × Int)} (h : Rd w A (pcells l)) (hl : 0 < l.length) : ∃ ad, A = some ad ∧ w.cell? ad = some (.int .i64 (nP l 0).1) ∧ w.cell? ⟨ad.block, ad.off + 1, none⟩ = some (.int .i64 (nP l 0).2) := by
  obtain ⟨y0, y1⟩ := pcells_get l 0 hl
  obtain ⟨ad, e, q1⟩ := h _ _ y0
  obtain ⟨ad2, e2, q2⟩ := h _ _ y1
  rw [e] at e2
  injection e2 with e2
  subst e2
  refine ⟨ad, e, by show w.cell? ad = some (.int .i64 (pT l 0)); simpa [Addr.add] using q1, ?_⟩
  have q3 := pairOff (i := 0 * 2) 1 (by omega) q2
  show w.cell? ⟨ad.block, ad.off + 1, none⟩ = some (.int .i64 (pB l 0))
  simpa [Addr.add] using q3
theorem ix_yes {P W F : List Int} {a b : Int} (h : ArmAB P W F a b) : ixV P W F a b = ixL P W F a b ∧ ixB P W F a b = true := by
  have : ixB P W F a b = true := armAB_iff.2 h
  exact ⟨ixV_yes this, this⟩
theorem one_arm {w : World} {A1 A2 A3 : Option Addr} {P W F : List Int} (c1 c2 c3 : Nat) (h : RdM w A1 P A2 W A3 F) (t : TypeId) : RdMs (w.alloc (.cells #[.slice A1 P.length c1, .slice A2 W.length c2, .slice A3 F.length c3] t)) (some ⟨w.heap.size, 0, none⟩) [⟨P, W, F⟩] := by
  intro k hk
  obtain rfl : k = 0 := by simpa using hk
  have bx := Bx3.new w (.slice A1 P.length c1) (.slice A2 W.length c2) (.slice A3 F.length c3) t
  have hv := h.below ((Below.refl _ _).alloc (Nat.le_refl _) (.cells #[.slice A1 P.length c1, .slice A2 W.length c2, .slice A3 F.length c3] t)) (Nat.le_refl _)
  exact ⟨_, A1, c1, A2, c2, A3, c3, rfl, bx.1, bx.2.1, bx.2.2.1, hv.r1, hv.r2, hv.r3⟩
theorem mulL {l d : Int} (h1 : -99 ≤ l ∧ l ≤ 99) (h2 : 0 ≤ d ∧ d ≤ 122880) : -13000000 ≤ l * d ∧ l * d ≤ 13000000 := by
  have := mulAbs (A := 99) (B := 122880) h1 h2 (by decide)
  omega
noncomputable def fi36 : Code := ((Try.f3.body.bind (restFrom 36)).getD .skip)

set_option maxRecDepth 100000 in
set_option maxHeartbeats 16000000 in
theorem fiLeave (A : Option Addr) (bs : List Int) (c : Nat) (w0 w : World) (rc : Rd w A (u8s bs)) (hb : ByOk bs) (hl : bs.length ≤ 65536) (HB : Below w0.heap.size w0 w) (u1 u2 u3 u4 u5 u6 u7 u8 u9 u10 u11 u12 u13 u14 u15 u16 u17 u18 u19 u20 u21 u22 u23 u24 u25 u26 u27 u28 u29 u30 u31 u32 u33 u34 u35 u36 u37 u38 u39 u40 u41 u42 u43 u44 u45 u46 u47 u48 u49 u50 u51 u52 u53 u54 u55 u56 u57 u58 u59 u60 u61 u62 u63 u64 u65 u66 u67 u68 u69 u70 u71 u72 u73 u74 u75 u76 u77 u78 u79 u80 u81 u82 u83 u84 u85 u86 u87 u88 u89 u90 u91 u92 u93 u94 u95 u96 u97 u98 u99 u100 u101 u102 u103 u104 u105 u106 u107 u108 u109 u110 u111 u112 u113 u114 u115 u116 u117 u118 u119 u120 u121 u122 u123 u124 u125 u126 u127 u128 u129 u130 u131 u132 u133 u134 u135 u136 u137 u138 u139 u140 u141 u142 u143 u144 u145 u146 u147 u148 u149 u150 u151 u152 u153 u154 u155 u156 u157 u158 u159 u160 u161 u162 u163 u164 u165 u166 u167 u168 u169 u170 u171 u172 u173 u174 u175 u176 u177 u178 u179 u180 u181 u182 u183 u184 u185 u186 u187 u188 u189 u190 u191 u192 u193 u194 u195 u196 u197 u198 u199 u200 u201 u202 u203 u204 u205 u206 u207 u208 u209 u210 u211 u212 u213 u214 u215 u216 u217 u218 u219 u220 u221 u222 u223 u224 u225 u226 u227 u228 u229 u230 u231 u232 u233 u234 u235 u236 u237 u238 u239 u240 u241 u242 u243 u244 u245 u246 u247 u248 u249 u250 u251 u252 u253 u254 u255 u256 u257 u258 u259 u260 u261 u262 u263 u264 u265 u266 u267 u268 u269 u270 u271 u272 u273 u274 u275 u276 u277 u278 u279 u280 u281 u282 u283 u284 u285 u286 u287 u288 u289 u290 u291 u292 u293 u294 u295 u296 u297 u298 u299 u300 u301 u302 u303 u304 u305 u306 u307 u308 u309 u310 u311 u312 u313 u314 u315 u316 u317 u318 u319 u320 u321 u322 u323 u324 u325 u326 u327 u328 u329 u330 u331 u332 u333 u334 u335 u336 u337 u338 u339 u340 u341 u342 u343 u344 u345 u346 u347 u348 u349 u350 u351 u352 u353 u354 u355 u356 u357 u358 u359 u360 u361 u362 u363 u364 u365 u366 u367 u368 u369 u370 u371 u372 u373 u374 u375 u376 u377 u378 u379 u380 u381 u382 u383 u384 u385 u386 u387 u388 u389 u390 u391 u392 u393 u394 u395 u396 u397 u398 u399 u400 u401 u402 u403 u404 u405 u406 u407 u408 u409 u410 u411 : Value) :
    Code.wp Try.prog fi36 (bodyPost Try.prog Try.f3 fun e w' => e = .returned (.bool true) ∧ Below w0.heap.size w0 w') ⟨#[.slice A bs.length c, u1, u2, u3, u4, u5, u6, u7, u8, u9, u10, u11, u12, u13, u14, u15, u16, u17, u18, u19, u20, u21, u22, u23, u24, u25, u26, u27, u28, u29, u30, u31, u32, u33, u34, u35, u36, u37, u38, u39, u40, u41, u42, u43, u44, u45, u46, u47, u48, u49, u50, u51, u52, u53, u54, u55, u56, u57, u58, u59, u60, u61, u62, u63, u64, u65, u66, u67, u68, u69, u70, u71, u72, u73, u74, u75, u76, u77, u78, u79, u80, u81, u82, u83, u84, u85, u86, u87, u88, u89, u90, u91, u92, u93, u94, u95, u96, u97, u98, u99, u100, u101, u102, u103, u104, u105, u106, u107, u108, u109, u110, u111, u112, u113, u114, u115, u116, u117, u118, u119, u120, u121, u122, u123, u124, u125, u126, u127, u128, u129, u130, u131, u132, u133, u134, u135, u136, u137, u138, u139, u140, u141, u142, u143, u144, u145, u146, u147, u148, u149, u150, u151, u152, u153, u154, u155, u156, u157, u158, u159, u160, u161, u162, u163, u164, u165, u166, u167, u168, u169, u170, u171, u172, u173, u174, u175, u176, u177, u178, u179, u180, u181, u182, u183, u184, u185, u186, u187, u188, u189, u190, u191, u192, u193, u194, u195, u196, u197, u198, u199, u200, u201, u202, u203, u204, u205, u206, u207, u208, u209, u210, u211, u212, u213, u214, u215, u216, u217, u218, u219, u220, u221, u222, u223, u224, u225, u226, u227, u228, u229, u230, u231, u232, u233, u234, u235, u236, u237, u238, u239, u240, u241, u242, u243, u244, u245, u246, u247, u248, u249, u250, u251, u252, u253, u254, u255, u256, u257, u258, u259, u260, u261, u262, u263, u264, u265, u266, u267, u268, u269, u270, u271, u272, u273, u274, u275, u276, u277, u278, u279, u280, u281, u282, u283, u284, u285, u286, u287, u288, u289, u290, u291, u292, u293, u294, u295, u296, u297, u298, u299, u300, u301, u302, u303, u304, u305, u306, u307, u308, u309, u310, u311, u312, u313, u314, u315, u316, u317, u318, u319, u320, u321, u322, u323, u324, u325, u326, u327, u328, u329, u330, u331, u332, u333, u334, u335, u336, u337, u338, u339, u340, u341, u342, u343, u344, u345, u346, u347, u348, u349, u350, u351, u352, u353, u354, u355, u356, u357, u358, u359, u360, u361, u362, u363, u364, u365, u366, u367, u368, u369, u370, u371, u372, u373, u374, u375, u376, u377, u378, u379, u380, u381, u382, u383, u384, u385, u386, u387, u388, u389, u390, u391, u392, u393, u394, u395, u396, u397, u398, u399, u400, u401, u402, u403, u404, u405, u406, u407, u408, u409, u410, u411], []⟩ w := by
  conv => arg 2; whnf
  go_wp2_with fail
  refine (drawLv_c A bs c _ rc hb (by omega)).mono ?_
  rintro e w1 ⟨A1, c1, P, A2, c2, W, A3, c3, F, a, b, l, rfl, hP, hW, hF, h, b1⟩
  have blB : Below w1.heap.size w1 (w1.alloc (.cells #[.slice A1 P.length c1, .slice A2 W.length c2, .slice A3 F.length c3] 28)) := (Below.refl _ _).alloc (Nat.le_refl _) _
  have bx := Bx3.new w1 (.slice A1 P.length c1) (.slice A2 W.length c2) (.slice A3 F.length c3) 28
  replace h := h.below blB (Nat.le_refl _)
  have HB1 := bUp HB (bUp b1 blB b1.size) HB.size
  obtain ⟨v, hv⟩ := nameI (lvV P W F a b l)
  obtain ⟨t, ht⟩ := nameI (lvB P W F a b l)
  have HV := Lib.hid (And.intro hv ht)
  clear hv ht b1 blB rc hb hl HB
  go_wp2_with fail
  generalize w1.alloc (.cells #[.slice A1 P.length c1, .slice A2 W.length c2, .slice A3 F.length c3] 28) = v1 at *
  obtain ⟨gm, hgm⟩ : ∃ gm, gm = w1.heap.size := ⟨_, rfl⟩
  rw [← hgm] at bx ⊢
  clear hgm
  have CC := implLv_c A1 P c1 A2 W c2 A3 F c3 a b l _ h
  rw [HV.out.1, HV.out.2] at CC
  refine (CC).mono ?_
  rintro e w2 ⟨rfl, bq⟩
  clear CC
  replace h := h.below bq (Nat.le_refl _)
  replace bx := bx.below bq
  have HB2 := bUp HB1 bq HB1.size
  clear HB1
  clear bq
  have k0 := bx.1
  have k1 := bx.2.1
  have k2 := bx.2.2.1
  go_wp2_with fail
  have CC := specLv_c A1 P c1 A2 W c2 A3 F c3 a b l _ h
  rw [HV.out.1, HV.out.2] at CC
  refine (CC).mono ?_
  rintro e w3 ⟨rfl, bq⟩
  clear CC k0 k1 k2
  replace h := h.below bq (Nat.le_refl _)
  replace bx := bx.below bq
  have HB3 := bUp HB2 bq HB2.size
  clear HB2
  clear bq
  cases t
  · go_wp2_with fail
    go_ret
    exact ⟨rfl, HB3⟩
  obtain ⟨hA, hlb, hve, hge, hen, hin⟩ := leave_law HV.out.2
  rw [← hve, HV.out.1] at hge hen hin
  have hn : 0 < P.length := by have := hA.arm.tree.n1; omega
  have hn9 : P.length ≤ 24 := hA.arm.tree.n2
  have HIX := Lib.hid (ix_yes hA)
  have HSC := Lib.hid (scale_one hA)
  have hlen := ixL_len (P := P) (W := W) (F := F) (a := a) (b := b)
  have hnP := ixL_nP (P := P) (W := W) (F := F) (a := a) (b := b) (z := 0) hn
  have hfr := idx_fr hA hn
  have hub := unitX_46 hA.arm hA.b0 hA.b4 hn
  have hwt := wt_endF hA hn
  have hab := hA.ab
  have hb4 := hA.b4
  have ha1 := hA.a1
  have hWl : 0 < W.length := by have := hA.arm.tree.len; omega
  obtain ⟨⟨fh1, fh2⟩, ⟨fh3, fh4⟩, -⟩ := frP_iff.1 hfr
  rw [← hnP] at hin fh1 fh2 fh3 fh4
  have HL0 : Hid (0 < (ixL P W F a b).length) := Lib.hid (by rw [hlen]; exact hn)
  have HL24 : Hid ((ixL P W F a b).length ≤ 24) := Lib.hid (by rw [hlen]; exact hn9)
  have HU := Lib.hid hub
  have HGE := Lib.hid hge
  have HEN := Lib.hid hen
  have HIN := Lib.hid hin
  have HWT := Lib.hid hwt
  have HSZ : Hid (SzMs [⟨P, W, F⟩]) := Lib.hid ⟨by simp, fun k hk => by
    obtain rfl : k = 0 := by simpa using hk
    exact ⟨by show P.length ≤ 1048576; omega, by show W.length ≤ 1048576; omega, by show F.length ≤ 1048576; omega⟩⟩
  clear hlen hnP hfr hub hge hen hin hve HV hwt
  have k0 := bx.1
  have k1 := bx.2.1
  have k2 := bx.2.2.1
  go_wp2_with fail
  have CC := implIx_c A1 P c1 A2 W c2 A3 F c3 a b _ h
  rw [HIX.out.1, HIX.out.2] at CC
  refine (CC).mono ?_
  rintro e w4 ⟨Ai1, ci1, rfl, oi1, bq⟩
  clear k0 k1 k2
  replace h := h.below bq (Nat.le_refl _)
  replace bx := bx.below bq
  have HB4 := bUp HB3 bq HB3.size
  clear HB3
  clear bq
  clear CC
  have ri1 := Rd.of_own oi1
  clear oi1
  have bs_ : Below w4.heap.size w4 (w4.alloc (.cells #[.slice A1 P.length c1, .slice A2 W.length c2, .slice A3 F.length c3] 28)) := (Below.refl _ _).alloc (Nat.le_refl _) _
  have hM := one_arm c1 c2 c3 h 28
  have k0 := bx.1
  have k1 := bx.2.1
  have k2 := bx.2.2.1
  go_wp2_with fail
  have CC := implSc_c (some ⟨w4.heap.size, 0, none⟩) [⟨P, W, F⟩] 1 a b _ hM HSZ.out
  rw [HSC.out.1, HSC.out.2] at CC
  replace h := h.below bs_ (Nat.le_refl _)
  replace bx := bx.below bs_
  replace ri1 := ri1.below bs_ (Nat.le_refl _)
  have HB5 := bUp HB4 bs_ HB4.size
  clear HB4
  clear hM k0 k1 k2
  refine (CC).mono ?_
  rintro e w5 ⟨rfl, bq⟩
  clear CC bs_
  replace h := h.below bq (Nat.le_refl _)
  replace bx := bx.below bq
  replace ri1 := ri1.below bq (Nat.le_refl _)
  have HB6 := bUp HB5 bq HB5.size
  clear HB5
  clear bq
  have k0 := bx.1
  have k1 := bx.2.1
  have k2 := bx.2.2.1
  go_wp2_with fail
  have CC := specIx_c A1 P c1 A2 W c2 A3 F c3 a b _ h
  rw [HIX.out.1, HIX.out.2] at CC
  refine (CC).mono ?_
  rintro e w6 ⟨Ai2, ci2, rfl, oi2, bq⟩
  clear k0 k1 k2
  replace h := h.below bq (Nat.le_refl _)
  replace bx := bx.below bq
  replace ri1 := ri1.below bq (Nat.le_refl _)
  have HB7 := bUp HB6 bq HB6.size
  clear HB6
  clear bq
  clear CC
  have ri2 := Rd.of_own oi2
  clear oi2
  go_wp2_with fail
  refine (rFracs_same Ai1 Ai2 (ixL P W F a b) _ _ ci1 ci2 _ rfl rfl ri1 ri2 (Nat.le_trans HL24.out (by decide))).mono ?_
  rintro e w7 ⟨rfl, bq⟩
  replace h := h.below bq (Nat.le_refl _)
  replace bx := bx.below bq
  replace ri1 := ri1.below bq (Nat.le_refl _)
  replace ri2 := ri2.below bq (Nat.le_refl _)
  have HB8 := bUp HB7 bq HB7.size
  clear HB7
  clear bq
  clear ri2
  have hL0 := HL0.out
  have iL : (0 : Int) < ((ixL P W F a b).length : Int) := by omega
  have iW : (0 : Int) < (W.length : Int) := by omega
  generalize ixL P W F a b = I at *
  obtain ⟨ai, rfl, q0, q1⟩ := headCells ri1 hL0
  obtain ⟨a2, rfl, q2⟩ := h.r2.intN hWl
  have q2 : w7.cell? a2 = some (.int .i64 (nth W 0)) := by simpa [Addr.add] using q2
  have k1 := bx.2.1
  have mu := mulL hlb (d := unitX P W b 0) ⟨HU.out.1, by have := HU.out.2; omega⟩
  have e3 : IntKind.i64.wrap (l * unitX P W b 0) = l * unitX P W b 0 := IntWalk.i64_in _ (by omega)
  clear mu
  cases he : endB P 0
  · have hw0 : nth W 0 = 0 := by
      have h1 := HWT.out
      have h2 := hA.arm.tree.wt 0 hn
      rw [he] at h2
      simpa using h2
    rw [hw0] at q2
    have mm := mulL hlb (d := b - a) ⟨by omega, by omega⟩
    have e1 : IntKind.i64.wrap (b - a) = b - a := IntWalk.i64_in _ (by omega)
    have e2 : IntKind.i64.wrap (l * (b - a)) = l * (b - a) := IntWalk.i64_in _ (by omega)
    have hq := HIN.out he
    have hge := HGE.out
    generalize unitX P W b 0 = u at *
    obtain ⟨ub, hub⟩ : ∃ ub : Int, ub = l * u := ⟨_, rfl⟩
    rw [← hub] at hge hq e3
    have HUB := Lib.hid hub
    clear hub
    by_cases hc : ub < v
    · rw [decide_eq_true hc] at hq
      have HQ := Lib.hid hq.symm
      clear hq hw0 HWT HIN HEN
      go_wp2_with fail
      refine (rLess_is _ _ _ _ true HQ.out (by omega) (by omega) (by omega) (by omega) _).mono ?_
      rintro e w8 ⟨rfl, b8⟩
      have HBz := bUp HB8 b8 HB8.size
      rw [HUB.out] at hge hc
      clear HUB e3
      have mu : IntKind.i64.wrap (l * u) = l * u := IntWalk.i64_in _ (by have := mulL hlb (d := u) ⟨HU.out.1, by have := HU.out.2; omega⟩; omega)
      go_wp2_with fail
      go_ret
      exact ⟨rfl, HBz⟩
    · rw [decide_eq_false hc] at hq
      have HQ := Lib.hid hq.symm
      clear hq hw0 HWT HIN HEN
      go_wp2_with fail
      refine (rLess_is _ _ _ _ false HQ.out (by omega) (by omega) (by omega) (by omega) _).mono ?_
      rintro e w8 ⟨rfl, b8⟩
      have HBz := bUp HB8 b8 HB8.size
      rw [HUB.out] at hge hc
      clear HUB e3
      have mu : IntKind.i64.wrap (l * u) = l * u := IntWalk.i64_in _ (by have := mulL hlb (d := u) ⟨HU.out.1, by have := HU.out.2; omega⟩; omega)
      go_wp2_with fail
      go_ret
      exact ⟨by show Ending.returned (.bool (!decide (l * u < v))) = _; rw [decide_eq_false (Int.not_lt.2 hc)]; rfl, HBz⟩
  · have hw0 : (nth W 0 == 0) = false := by
      have h1 : 0 < nth W 0 := HWT.out ▸ he
      simp
      omega
    have hge := HGE.out
    have hc : ¬ l * unitX P W b 0 < v := of_decide_eq_false (HEN.out he)
    clear HWT HIN HEN
    go_wp2_with fail
    go_ret
    exact ⟨by show Ending.returned (.bool (!decide (l * unitX P W b 0 < v))) = _; rw [decide_eq_false (Int.not_lt.2 hc)]; rfl, HB8⟩

noncomputable def fi26 : Code := ((Try.f3.body.bind (restFrom 26)).getD .skip)

set_option maxRecDepth 100000 in
set_option maxHeartbeats 16000000 in
theorem fiFair (A : Option Addr) (bs : List Int) (c : Nat) (w0 w : World) (rc : Rd w A (u8s bs)) (hb : ByOk bs) (hl : bs.length ≤ 65536) (HB : Below w0.heap.size w0 w) (u1 u2 u3 u4 u5 u6 u7 u8 u9 u10 u11 u12 u13 u14 u15 u16 u17 u18 u19 u20 u21 u22 u23 u24 u25 u26 u27 u28 u29 u30 u31 u32 u33 u34 u35 u36 u37 u38 u39 u40 u41 u42 u43 u44 u45 u46 u47 u48 u49 u50 u51 u52 u53 u54 u55 u56 u57 u58 u59 u60 u61 u62 u63 u64 u65 u66 u67 u68 u69 u70 u71 u72 u73 u74 u75 u76 u77 u78 u79 u80 u81 u82 u83 u84 u85 u86 u87 u88 u89 u90 u91 u92 u93 u94 u95 u96 u97 u98 u99 u100 u101 u102 u103 u104 u105 u106 u107 u108 u109 u110 u111 u112 u113 u114 u115 u116 u117 u118 u119 u120 u121 u122 u123 u124 u125 u126 u127 u128 u129 u130 u131 u132 u133 u134 u135 u136 u137 u138 u139 u140 u141 u142 u143 u144 u145 u146 u147 u148 u149 u150 u151 u152 u153 u154 u155 u156 u157 u158 u159 u160 u161 u162 u163 u164 u165 u166 u167 u168 u169 u170 u171 u172 u173 u174 u175 u176 u177 u178 u179 u180 u181 u182 u183 u184 u185 u186 u187 u188 u189 u190 u191 u192 u193 u194 u195 u196 u197 u198 u199 u200 u201 u202 u203 u204 u205 u206 u207 u208 u209 u210 u211 u212 u213 u214 u215 u216 u217 u218 u219 u220 u221 u222 u223 u224 u225 u226 u227 u228 u229 u230 u231 u232 u233 u234 u235 u236 u237 u238 u239 u240 u241 u242 u243 u244 u245 u246 u247 u248 u249 u250 u251 u252 u253 u254 u255 u256 u257 u258 u259 u260 u261 u262 u263 u264 u265 u266 u267 u268 u269 u270 u271 u272 u273 u274 u275 u276 u277 u278 u279 u280 u281 u282 u283 u284 u285 u286 u287 u288 u289 u290 u291 u292 u293 u294 u295 u296 u297 u298 u299 u300 u301 u302 u303 u304 u305 u306 u307 u308 u309 u310 u311 u312 u313 u314 u315 u316 u317 u318 u319 u320 u321 u322 u323 u324 u325 u326 u327 u328 u329 u330 u331 u332 u333 u334 u335 u336 u337 u338 u339 u340 u341 u342 u343 u344 u345 u346 u347 u348 u349 u350 u351 u352 u353 u354 u355 u356 u357 u358 u359 u360 u361 u362 u363 u364 u365 u366 u367 u368 u369 u370 u371 u372 u373 u374 u375 u376 u377 u378 u379 u380 u381 u382 u383 u384 u385 u386 u387 u388 u389 u390 u391 u392 u393 u394 u395 u396 u397 u398 u399 u400 u401 u402 u403 u404 u405 u406 u407 u408 u409 u410 u411 : Value) :
    Code.wp Try.prog fi26 (bodyPost Try.prog Try.f3 fun e w' => e = .returned (.bool true) ∧ Below w0.heap.size w0 w') ⟨#[.slice A bs.length c, u1, u2, u3, u4, u5, u6, u7, u8, u9, u10, u11, u12, u13, u14, u15, u16, u17, u18, u19, u20, u21, u22, u23, u24, u25, u26, u27, u28, u29, u30, u31, u32, u33, u34, u35, u36, u37, u38, u39, u40, u41, u42, u43, u44, u45, u46, u47, u48, u49, u50, u51, u52, u53, u54, u55, u56, u57, u58, u59, u60, u61, u62, u63, u64, u65, u66, u67, u68, u69, u70, u71, u72, u73, u74, u75, u76, u77, u78, u79, u80, u81, u82, u83, u84, u85, u86, u87, u88, u89, u90, u91, u92, u93, u94, u95, u96, u97, u98, u99, u100, u101, u102, u103, u104, u105, u106, u107, u108, u109, u110, u111, u112, u113, u114, u115, u116, u117, u118, u119, u120, u121, u122, u123, u124, u125, u126, u127, u128, u129, u130, u131, u132, u133, u134, u135, u136, u137, u138, u139, u140, u141, u142, u143, u144, u145, u146, u147, u148, u149, u150, u151, u152, u153, u154, u155, u156, u157, u158, u159, u160, u161, u162, u163, u164, u165, u166, u167, u168, u169, u170, u171, u172, u173, u174, u175, u176, u177, u178, u179, u180, u181, u182, u183, u184, u185, u186, u187, u188, u189, u190, u191, u192, u193, u194, u195, u196, u197, u198, u199, u200, u201, u202, u203, u204, u205, u206, u207, u208, u209, u210, u211, u212, u213, u214, u215, u216, u217, u218, u219, u220, u221, u222, u223, u224, u225, u226, u227, u228, u229, u230, u231, u232, u233, u234, u235, u236, u237, u238, u239, u240, u241, u242, u243, u244, u245, u246, u247, u248, u249, u250, u251, u252, u253, u254, u255, u256, u257, u258, u259, u260, u261, u262, u263, u264, u265, u266, u267, u268, u269, u270, u271, u272, u273, u274, u275, u276, u277, u278, u279, u280, u281, u282, u283, u284, u285, u286, u287, u288, u289, u290, u291, u292, u293, u294, u295, u296, u297, u298, u299, u300, u301, u302, u303, u304, u305, u306, u307, u308, u309, u310, u311, u312, u313, u314, u315, u316, u317, u318, u319, u320, u321, u322, u323, u324, u325, u326, u327, u328, u329, u330, u331, u332, u333, u334, u335, u336, u337, u338, u339, u340, u341, u342, u343, u344, u345, u346, u347, u348, u349, u350, u351, u352, u353, u354, u355, u356, u357, u358, u359, u360, u361, u362, u363, u364, u365, u366, u367, u368, u369, u370, u371, u372, u373, u374, u375, u376, u377, u378, u379, u380, u381, u382, u383, u384, u385, u386, u387, u388, u389, u390, u391, u392, u393, u394, u395, u396, u397, u398, u399, u400, u401, u402, u403, u404, u405, u406, u407, u408, u409, u410, u411], []⟩ w := by
  conv => arg 2; whnf
  go_wp2_with fail
  refine (drawFe_c A bs c _ rc hb (by omega)).mono ?_
  rintro e w1 ⟨A1, c1, P, A2, c2, W, A3, c3, F, a, b, l, rfl, hP, hW, hF, h, b1⟩
  have blB : Below w1.heap.size w1 (w1.alloc (.cells #[.slice A1 P.length c1, .slice A2 W.length c2, .slice A3 F.length c3] 28)) := (Below.refl _ _).alloc (Nat.le_refl _) _
  have bx := Bx3.new w1 (.slice A1 P.length c1) (.slice A2 W.length c2) (.slice A3 F.length c3) 28
  have b1' := bUp b1 blB b1.size
  replace h := h.below blB (Nat.le_refl _)
  replace rc := rc.below b1' (Nat.le_refl _)
  have HB1 := bUp HB b1' HB.size
  obtain ⟨v, hv⟩ := nameI (fvV P W F a b l)
  obtain ⟨t, ht⟩ := nameI (fvB P W F a b l)
  have HV := Lib.hid (And.intro hv ht)
  clear hv ht b1 b1' blB HB
  go_wp2_with fail
  generalize w1.alloc (.cells #[.slice A1 P.length c1, .slice A2 W.length c2, .slice A3 F.length c3] 28) = v1 at *
  obtain ⟨gm, hgm⟩ : ∃ gm, gm = w1.heap.size := ⟨_, rfl⟩
  rw [← hgm] at bx ⊢
  clear hgm
  have CC := implFe_c A1 P c1 A2 W c2 A3 F c3 a b l _ h
  rw [HV.out.1, HV.out.2] at CC
  refine (CC).mono ?_
  rintro e w2 ⟨rfl, bq⟩
  clear CC
  replace rc := rc.below bq (Nat.le_refl _)
  replace h := h.below bq (Nat.le_refl _)
  replace bx := bx.below bq
  have HB2 := bUp HB1 bq HB1.size
  clear HB1
  clear bq
  have k0 := bx.1
  have k1 := bx.2.1
  have k2 := bx.2.2.1
  go_wp2_with fail
  have CC := specFe_c A1 P c1 A2 W c2 A3 F c3 a b l _ h
  rw [HV.out.1, HV.out.2] at CC
  refine (CC).mono ?_
  rintro e w3 ⟨rfl, bq⟩
  clear CC k0 k1 k2
  replace rc := rc.below bq (Nat.le_refl _)
  replace h := h.below bq (Nat.le_refl _)
  replace bx := bx.below bq
  have HB3 := bUp HB2 bq HB2.size
  clear HB2
  clear bq
  go_upto_region 31 with fail
  rename_i K1 hK1 K0 hK0
  replace hK1 := Lib.hid hK1
  cases t
  · go_wp2_with fail
    refine hK1.out _ _ ?_
    exact fiLeave A bs c w0 _ rc hb hl HB3 _ _ _ _ _ _ _ _ _ _ _ _ _ _ _ _ _ _ _ _ _ _ _ _ _ _ _ _ _ _ _ _ _ _ _ _ _ _ _ _ _ _ _ _ _ _ _ _ _ _ _ _ _ _ _ _ _ _ _ _ _ _ _ _ _ _ _ _ _ _ _ _ _ _ _ _ _ _ _ _ _ _ _ _ _ _ _ _ _ _ _ _ _ _ _ _ _ _ _ _ _ _ _ _ _ _ _ _ _ _ _ _ _ _ _ _ _ _ _ _ _ _ _ _ _ _ _ _ _ _ _ _ _ _ _ _ _ _ _ _ _ _ _ _ _ _ _ _ _ _ _ _ _ _ _ _ _ _ _ _ _ _ _ _ _ _ _ _ _ _ _ _ _ _ _ _ _ _ _ _ _ _ _ _ _ _ _ _ _ _ _ _ _ _ _ _ _ _ _ _ _ _ _ _ _ _ _ _ _ _ _ _ _ _ _ _ _ _ _ _ _ _ _ _ _ _ _ _ _ _ _ _ _ _ _ _ _ _ _ _ _ _ _ _ _ _ _ _ _ _ _ _ _ _ _ _ _ _ _ _ _ _ _ _ _ _ _ _ _ _ _ _ _ _ _ _ _ _ _ _ _ _ _ _ _ _ _ _ _ _ _ _ _ _ _ _ _ _ _ _ _ _ _ _ _ _ _ _ _ _ _ _ _ _ _ _ _ _ _ _ _ _ _ _ _ _ _ _ _ _ _ _ _ _ _ _ _ _ _ _ _ _ _ _ _ _ _ _ _ _ _ _ _ _ _ _ _ _ _ _ _ _ _ _ _ _ _ _ _ _ _ _ _ _ _ _ _ _ _ _ _ _ _ _ _ _ _ _ _ _ _ _ _ _ _ _ _ _ _ _ _ _ _ _ _ _ _ _ _ _ _
  obtain ⟨hA, hlb, hve⟩ := fair_law HV.out.2
  rw [HV.out.1] at hve
  have hn : 0 < P.length := by have := hA.arm.tree.n1; omega
  have hn9 : P.length ≤ 24 := hA.arm.tree.n2
  have HIX := Lib.hid (ix_yes hA)
  have hlen := ixL_len (P := P) (W := W) (F := F) (a := a) (b := b)
  have hnP := ixL_nP (P := P) (W := W) (F := F) (a := a) (b := b) (z := 0) hn
  have hfr := idx_fr hA hn
  obtain ⟨⟨fh1, fh2⟩, ⟨fh3, fh4⟩, -⟩ := frP_iff.1 hfr
  rw [← hnP] at hve fh1 fh2 fh3 fh4
  have HL0 : Hid (0 < (ixL P W F a b).length) := Lib.hid (by rw [hlen]; exact hn)
  have HL24 : Hid ((ixL P W F a b).length ≤ 24) := Lib.hid (by rw [hlen]; exact hn9)
  have HVE := Lib.hid hve
  clear hlen hnP hfr hve HV
  have k0 := bx.1
  have k1 := bx.2.1
  have k2 := bx.2.2.1
  go_wp2_with fail
  have CC := implIx_c A1 P c1 A2 W c2 A3 F c3 a b _ h
  rw [HIX.out.1, HIX.out.2] at CC
  refine (CC).mono ?_
  rintro e w4 ⟨Ai1, ci1, rfl, oi1, bq⟩
  clear k0 k1 k2
  replace rc := rc.below bq (Nat.le_refl _)
  replace h := h.below bq (Nat.le_refl _)
  replace bx := bx.below bq
  have HB4 := bUp HB3 bq HB3.size
  clear HB3
  clear bq
  clear CC
  have ri1 := Rd.of_own oi1
  clear oi1
  have k0 := bx.1
  have k1 := bx.2.1
  have k2 := bx.2.2.1
  go_wp2_with fail
  have CC := specIx_c A1 P c1 A2 W c2 A3 F c3 a b _ h
  rw [HIX.out.1, HIX.out.2] at CC
  refine (CC).mono ?_
  rintro e w5 ⟨Ai2, ci2, rfl, oi2, bq⟩
  clear k0 k1 k2
  replace rc := rc.below bq (Nat.le_refl _)
  replace h := h.below bq (Nat.le_refl _)
  replace bx := bx.below bq
  replace ri1 := ri1.below bq (Nat.le_refl _)
  have HB5 := bUp HB4 bq HB4.size
  clear HB4
  clear bq
  clear CC
  have ri2 := Rd.of_own oi2
  clear oi2
  go_wp2_with fail
  refine (rFracs_same Ai1 Ai2 (ixL P W F a b) _ _ ci1 ci2 _ rfl rfl ri1 ri2 (Nat.le_trans HL24.out (by decide))).mono ?_
  rintro e w6 ⟨rfl, bq⟩
  replace rc := rc.below bq (Nat.le_refl _)
  replace h := h.below bq (Nat.le_refl _)
  replace bx := bx.below bq
  replace ri1 := ri1.below bq (Nat.le_refl _)
  replace ri2 := ri2.below bq (Nat.le_refl _)
  have HB6 := bUp HB5 bq HB5.size
  clear HB5
  clear bq
  clear ri2
  have hL0 := HL0.out
  have iL : (0 : Int) < ((ixL P W F a b).length : Int) := by omega
  generalize ixL P W F a b = I at *
  have ri := ri1
  obtain ⟨ai, rfl, q0, q1⟩ := headCells ri hL0
  clear ri
  obtain ⟨q, hq⟩ := nameI (decide ((nP I 0).1 * 1 < l * (nP I 0).2))
  have hve := HVE.out
  rw [hq] at hve
  subst hve
  have HQ := Lib.hid hq
  clear hq HVE
  go_wp2_with fail
  refine (rLess_is _ _ _ _ q HQ.out (by omega) (by omega) (by omega) (by omega) _).mono ?_
  rintro e w7 ⟨rfl, b7⟩
  replace rc := rc.below b7 (Nat.le_refl _)
  have HBz := bUp HB6 b7 HB6.size
  cases q
  · go_wp2_with fail
    refine hK1.out _ _ ?_
    exact fiLeave A bs c w0 _ rc hb hl HBz _ _ _ _ _ _ _ _ _ _ _ _ _ _ _ _ _ _ _ _ _ _ _ _ _ _ _ _ _ _ _ _ _ _ _ _ _ _ _ _ _ _ _ _ _ _ _ _ _ _ _ _ _ _ _ _ _ _ _ _ _ _ _ _ _ _ _ _ _ _ _ _ _ _ _ _ _ _ _ _ _ _ _ _ _ _ _ _ _ _ _ _ _ _ _ _ _ _ _ _ _ _ _ _ _ _ _ _ _ _ _ _ _ _ _ _ _ _ _ _ _ _ _ _ _ _ _ _ _ _ _ _ _ _ _ _ _ _ _ _ _ _ _ _ _ _ _ _ _ _ _ _ _ _ _ _ _ _ _ _ _ _ _ _ _ _ _ _ _ _ _ _ _ _ _ _ _ _ _ _ _ _ _ _ _ _ _ _ _ _ _ _ _ _ _ _ _ _ _ _ _ _ _ _ _ _ _ _ _ _ _ _ _ _ _ _ _ _ _ _ _ _ _ _ _ _ _ _ _ _ _ _ _ _ _ _ _ _ _ _ _ _ _ _ _ _ _ _ _ _ _ _ _ _ _ _ _ _ _ _ _ _ _ _ _ _ _ _ _ _ _ _ _ _ _ _ _ _ _ _ _ _ _ _ _ _ _ _ _ _ _ _ _ _ _ _ _ _ _ _ _ _ _ _ _ _ _ _ _ _ _ _ _ _ _ _ _ _ _ _ _ _ _ _ _ _ _ _ _ _ _ _ _ _ _ _ _ _ _ _ _ _ _ _ _ _ _ _ _ _ _ _ _ _ _ _ _ _ _ _ _ _ _ _ _ _ _ _ _ _ _ _ _ _ _ _ _ _ _ _ _ _ _ _ _ _ _ _ _ _ _ _ _ _ _ _ _ _ _ _ _ _ _ _ _ _ _ _ _ _ _
  · go_wp2_with fail
    refine hK1.out _ _ ?_
    exact fiLeave A bs c w0 _ rc hb hl HBz _ _ _ _ _ _ _ _ _ _ _ _ _ _ _ _ _ _ _ _ _ _ _ _ _ _ _ _ _ _ _ _ _ _ _ _ _ _ _ _ _ _ _ _ _ _ _ _ _ _ _ _ _ _ _ _ _ _ _ _ _ _ _ _ _ _ _ _ _ _ _ _ _ _ _ _ _ _ _ _ _ _ _ _ _ _ _ _ _ _ _ _ _ _ _ _ _ _ _ _ _ _ _ _ _ _ _ _ _ _ _ _ _ _ _ _ _ _ _ _ _ _ _ _ _ _ _ _ _ _ _ _ _ _ _ _ _ _ _ _ _ _ _ _ _ _ _ _ _ _ _ _ _ _ _ _ _ _ _ _ _ _ _ _ _ _ _ _ _ _ _ _ _ _ _ _ _ _ _ _ _ _ _ _ _ _ _ _ _ _ _ _ _ _ _ _ _ _ _ _ _ _ _ _ _ _ _ _ _ _ _ _ _ _ _ _ _ _ _ _ _ _ _ _ _ _ _ _ _ _ _ _ _ _ _ _ _ _ _ _ _ _ _ _ _ _ _ _ _ _ _ _ _ _ _ _ _ _ _ _ _ _ _ _ _ _ _ _ _ _ _ _ _ _ _ _ _ _ _ _ _ _ _ _ _ _ _ _ _ _ _ _ _ _ _ _ _ _ _ _ _ _ _ _ _ _ _ _ _ _ _ _ _ _ _ _ _ _ _ _ _ _ _ _ _ _ _ _ _ _ _ _ _ _ _ _ _ _ _ _ _ _ _ _ _ _ _ _ _ _ _ _ _ _ _ _ _ _ _ _ _ _ _ _ _ _ _ _ _ _ _ _ _ _ _ _ _ _ _ _ _ _ _ _ _ _ _ _ _ _ _ _ _ _ _ _ _ _ _ _ _ _ _ _ _ _ _ _ _ _ _

/-- What the law asks of a node. -/
def FiIn (P F : List Int) (I C : List (Int × Int)) (x : Nat) : Prop := decide ((nP I x).1 * 1 < nth F x * (nP I x).2) = false ∧ decide ((nP I x).1 * (nP C x).2 < (nP C x).1 * (nP I x).2) = false ∧
  (x ≠ 0 → ∃ p : Nat, nth P x = (p : Int) ∧ p < C.length ∧ frP (nP C p) = true ∧ decide ((nP C p).1 * (nP C x).2 < (nP C x).1 * (nP C p).2) = false)
structure FiAt (P W F : List Int) (I C : List (Int × Int)) (x : Nat) : Prop where
  xP : x < P.length
  xW : x < W.length
  xF : x < F.length
  xC : x < C.length
  fb : -99 ≤ nth F x ∧ nth F x ≤ 99
  fi : frP (nP I x) = true
  fc : frP (nP C x) = true
  node : (0 < nth W x ∧ (nP I x).1 = 0 ∧ (nP C x).1 = 0) ∨ (¬ 0 < nth W x ∧ FiIn P F I C x)
theorem fi_at {P W F : List Int} {a b : Int} {x : Nat} (h : x < (ixV P W F a b).length) : FiAt P W F (ixV P W F a b) (cgV P W F a b) x := by
  cases hi : ixB P W F a b with
  | false => rw [ixV_no hi] at h; simp at h
  | true =>
    have hA := armAB_iff.1 hi
    rw [ixV_yes hi, cgV_yes hi]
    rw [ixV_yes hi, ixL_len] at h
    have cn : ∀ {z}, z < P.length → nP (cgL P W F a b) z = cgX P W F a b z := fun {z} hz => by
      rw [← cgM_all, cgM_nP hz, if_pos hz]
    have hF := hA.arm.len
    have hW := hA.arm.tree.len
    refine ⟨h, by omega, by omega, by rw [cgL_len]; exact h, hA.arm.fb x, by rw [ixL_nP h]; exact idx_fr hA h, by rw [cn h]; exact cg_fr hA h, ?_⟩
    rw [ixL_nP h, cn h]
    have hw := wt_endF hA h
    cases he : endB P x with
    | true =>
      left
      refine ⟨by rw [hw]; exact he, by rw [idx_end he], by rw [cgX_end he, idx_end he]⟩
    | false =>
      right
      refine ⟨by rw [hw, he]; decide, ?_⟩
      unfold FiIn
      rw [ixL_nP h, cn h]
      refine ⟨fi_fee hA h he, fi_charge hA h he, fun h0 => ?_⟩
      obtain ⟨p, hp, hlt⟩ := par_of hA.arm.tree.par (Nat.pos_of_ne_zero h0) h
      have hpl : p < P.length := by omega
      exact ⟨p, hp, by rw [cgL_len]; exact hpl, by rw [cn hpl]; exact cg_fr hA hpl, by rw [cn hpl]; exact fi_parent hA h h0 he hp⟩
/-- The two cells of a pair of a row. -/
theorem pairCells {w : World} {ad : Addr} {l : List (Int × Int)} {x : Nat} (h : Rd w (some ad) (pcells l)) (hx : x < l.length) : w.cell? (ad.add (x * 2)) = some (.int .i64 (nP l x).1) ∧ w.cell? ⟨(ad.add (x * 2)).block, (ad.add (x * 2)).off + 1, none⟩ = some (.int .i64 (nP l x).2) := by
  obtain ⟨y0, y1⟩ := pcells_get l x hx
  obtain ⟨_, e, q1⟩ := h _ _ y0
  injection e with e
  subst e
  obtain ⟨_, e, q2⟩ := h _ _ y1
  injection e with e
  subst e
  exact ⟨q1, pairOff 1 (by omega) q2⟩
theorem someAd {w : World} {A : Option Addr} {l : List (Int × Int)} {x : Nat} (h : Rd w A (pcells l)) (hx : x < l.length) : ∃ ad, A = some ad := by
  obtain ⟨y0, _⟩ := pcells_get l x hx
  obtain ⟨ad, e, _⟩ := h _ _ y0
  exact ⟨ad, e⟩
theorem someAdI {w : World} {A : Option Addr} {l : List Int} {x : Nat} (h : Rd w A (ints l)) (hx : x < l.length) : ∃ ad, A = some ad := by
  obtain ⟨ad, e, _⟩ := h.intN hx
  exact ⟨ad, e⟩
noncomputable def fi18 : Code := ((Try.f3.body.bind (restFrom 18)).getD .skip)

set_option maxRecDepth 100000 in
set_option maxHeartbeats 16000000 in
theorem fiLoop (A1 : Option Addr) (P : List Int) (c1 : Nat) (A2 : Option Addr) (W : List Int) (c2 : Nat) (A3 : Option Addr) (F : List Int) (c3 : Nat) (gm : Nat) (A : Option Addr) (bs : List Int) (c : Nat) (AI : Option Addr) (I : List (Int × Int)) (cI : Nat) (AC : Option Addr) (C : List (Int × Int)) (cC : Nat) (hI : I.length ≤ 24) (HX : Hid (∀ x, x < I.length → FiAt P W F I C x))
    (w0 w : World) (rc : Rd w A (u8s bs)) (hb : ByOk bs) (hl : bs.length ≤ 65536) (HB : Below w0.heap.size w0 w) (h : RdM w A1 P A2 W A3 F) (bx : Bx3 w gm (.slice A1 P.length c1) (.slice A2 W.length c2) (.slice A3 F.length c3)) (rI : Rd w AI (pcells I)) (rC : Rd w AC (pcells C)) (u1 u2 u4 u5 u6 u7 u8 u9 u10 u11 u12 u14 u15 u16 u18 u19 u20 u21 u22 u23 u24 u25 u26 u27 u28 u29 u30 u31 u32 u33 u34 u35 u36 u37 u38 u39 u40 u41 u42 u43 u44 u45 u46 u47 u48 u49 u50 u51 u52 u53 u54 u55 u56 u57 u58 u59 u60 u61 u62 u63 u64 u65 u66 u67 u68 u69 u70 u71 u72 u73 u74 u75 u76 u77 u78 u79 u80 u81 u82 u83 u84 u85 u86 u87 u88 u89 u90 u91 u92 u93 u94 u95 u96 u97 u98 u99 u100 u101 u102 u103 u104 u105 u106 u107 u108 u109 u110 u111 u112 u113 u114 u115 u116 u117 u118 u119 u120 u121 u122 u123 u124 u125 u126 u127 u128 u129 u130 u131 u132 u133 u134 u135 u136 u137 u138 u139 u140 u141 u142 u143 u144 u145 u146 u147 u148 u149 u150 u151 u152 u153 u154 u155 u156 u157 u158 u159 u160 u161 u162 u163 u164 u165 u166 u167 u168 u169 u170 u171 u172 u173 u174 u175 u176 u177 u178 u179 u180 u181 u182 u183 u184 u185 u186 u187 u188 u189 u190 u191 u192 u193 u194 u195 u196 u197 u198 u199 u200 u201 u202 u203 u204 u205 u206 u207 u208 u209 u210 u211 u212 u213 u214 u215 u216 u217 u218 u219 u220 u221 u222 u223 u224 u225 u226 u227 u228 u229 u230 u231 u232 u233 u234 u235 u236 u237 u238 u239 u240 u241 u242 u243 u244 u245 u246 u247 u248 u249 u250 u251 u252 u253 u254 u255 u256 u257 u258 u259 u260 u261 u262 u263 u264 u265 u266 u267 u268 u269 u270 u271 u272 u273 u274 u275 u276 u277 u278 u279 u280 u281 u282 u283 u284 u285 u286 u287 u288 u289 u290 u291 u292 u293 u294 u295 u296 u297 u298 u299 u300 u301 u302 u303 u304 u305 u306 u307 u308 u309 u310 u311 u312 u313 u314 u315 u316 u317 u318 u319 u320 u321 u322 u323 u324 u325 u326 u327 u328 u329 u330 u331 u332 u333 u334 u335 u336 u337 u338 u339 u340 u341 u342 u343 u344 u345 u346 u347 u348 u349 u350 u351 u352 u353 u354 u355 u356 u357 u358 u359 u360 u361 u362 u363 u364 u365 u366 u367 u368 u369 u370 u371 u372 u373 u374 u375 u376 u377 u378 u379 u380 u381 u382 u383 u384 u385 u386 u387 u388 u389 u390 u391 u392 u393 u394 u395 u396 u397 u398 u399 u400 u401 u402 u403 u404 u405 u406 u407 u408 u409 u410 u411 : Value) :
    Code.wp Try.prog fi18 (bodyPost Try.prog Try.f3 fun e w' => e = .returned (.bool true) ∧ Below w0.heap.size w0 w') ⟨#[.slice A bs.length c, u1, u2, .pointer (some ⟨gm, 0, none⟩), u4, u5, u6, u7, u8, u9, u10, u11, u12, .slice AI I.length cI, u14, u15, u16, .slice AC C.length cC, u18, u19, u20, u21, u22, u23, u24, u25, u26, u27, u28, u29, u30, u31, u32, u33, u34, u35, u36, u37, u38, u39, u40, u41, u42, u43, u44, u45, u46, u47, u48, u49, u50, u51, u52, u53, u54, u55, u56, u57, u58, u59, u60, u61, u62, u63, u64, u65, u66, u67, u68, u69, u70, u71, u72, u73, u74, u75, u76, u77, u78, u79, u80, u81, u82, u83, u84, u85, u86, u87, u88, u89, u90, u91, u92, u93, u94, u95, u96, u97, u98, u99, u100, u101, u102, u103, u104, u105, u106, u107, u108, u109, u110, u111, u112, u113, u114, u115, u116, u117, u118, u119, u120, u121, u122, u123, u124, u125, u126, u127, u128, u129, u130, u131, u132, u133, u134, u135, u136, u137, u138, u139, u140, u141, u142, u143, u144, u145, u146, u147, u148, u149, u150, u151, u152, u153, u154, u155, u156, u157, u158, u159, u160, u161, u162, u163, u164, u165, u166, u167, u168, u169, u170, u171, u172, u173, u174, u175, u176, u177, u178, u179, u180, u181, u182, u183, u184, u185, u186, u187, u188, u189, u190, u191, u192, u193, u194, u195, u196, u197, u198, u199, u200, u201, u202, u203, u204, u205, u206, u207, u208, u209, u210, u211, u212, u213, u214, u215, u216, u217, u218, u219, u220, u221, u222, u223, u224, u225, u226, u227, u228, u229, u230, u231, u232, u233, u234, u235, u236, u237, u238, u239, u240, u241, u242, u243, u244, u245, u246, u247, u248, u249, u250, u251, u252, u253, u254, u255, u256, u257, u258, u259, u260, u261, u262, u263, u264, u265, u266, u267, u268, u269, u270, u271, u272, u273, u274, u275, u276, u277, u278, u279, u280, u281, u282, u283, u284, u285, u286, u287, u288, u289, u290, u291, u292, u293, u294, u295, u296, u297, u298, u299, u300, u301, u302, u303, u304, u305, u306, u307, u308, u309, u310, u311, u312, u313, u314, u315, u316, u317, u318, u319, u320, u321, u322, u323, u324, u325, u326, u327, u328, u329, u330, u331, u332, u333, u334, u335, u336, u337, u338, u339, u340, u341, u342, u343, u344, u345, u346, u347, u348, u349, u350, u351, u352, u353, u354, u355, u356, u357, u358, u359, u360, u361, u362, u363, u364, u365, u366, u367, u368, u369, u370, u371, u372, u373, u374, u375, u376, u377, u378, u379, u380, u381, u382, u383, u384, u385, u386, u387, u388, u389, u390, u391, u392, u393, u394, u395, u396, u397, u398, u399, u400, u401, u402, u403, u404, u405, u406, u407, u408, u409, u410, u411], []⟩ w := by
  conv => arg 2; whnf
  go_wp2_with fail
  rename_i K1 hK1
  replace hK1 := Lib.hid hK1
  go_loopw [21] (fun i wr => ∃ n : Nat, n ≤ I.length ∧ i = .int .i64 (n : Int) ∧ Below w.heap.size w wr) (fun i _ => I.length - (intOf i).toNat)
  case atStart => exact ⟨0, by omega, rfl, Below.refl _ _⟩
  case round =>
    obtain ⟨v, rfl⟩ : ∃ v : World, v = wr := ⟨_, rfl⟩
    obtain ⟨n, hn, rfl, HV⟩ := hrel
    have HNN := Lib.hid hn
    by_cases hlt : n < I.length
    · have FX := HX.out n hlt
      obtain ⟨ad, rfl⟩ := someAd rI hlt
      obtain ⟨ac, rfl⟩ := someAd rC FX.xC
      obtain ⟨a1, rfl⟩ := someAdI h.r1 FX.xP
      obtain ⟨a2, rfl⟩ := someAdI h.r2 FX.xW
      obtain ⟨a3, rfl⟩ := someAdI h.r3 FX.xF
      have hv := h.below HV (Nat.le_refl _)
      obtain ⟨_, e, w_n⟩ := hv.r2.intN FX.xW
      injection e with e
      subst e
      obtain ⟨i0, i1⟩ := pairCells (rI.below HV (Nat.le_refl _)) hlt
      obtain ⟨d0, d1⟩ := pairCells (rC.below HV (Nat.le_refl _)) FX.xC
      obtain ⟨k0, k1, k2, k3⟩ := bx.below HV
      have jI : (n : Int) < (I.length : Int) := by omega
      have jC : (n : Int) < (C.length : Int) := by have := FX.xC; omega
      have jP : (n : Int) < (P.length : Int) := by have := FX.xP; omega
      have jW : (n : Int) < (W.length : Int) := by have := FX.xW; omega
      have jF : (n : Int) < (F.length : Int) := by have := FX.xF; omega
      rcases FX.node with ⟨e0, e1, e2⟩ | ⟨e0, e1⟩
      · rw [e1] at i0
        rw [e2] at d0
        have FXH := Lib.hid FX
        clear FX i1 d1 hv
        by_cases h0 : n = 0
        · subst h0
          have m1 : 0 < W.length := FXH.out.xW
          have m2 : 0 < F.length := FXH.out.xF
          have m3 : 0 < C.length := FXH.out.xC
          have m4 : 0 < P.length := FXH.out.xP
          have w_n : v.cell? a2 = some (.int .i64 (nth W 0)) := by simpa [Addr.add] using w_n
          have i0 : v.cell? ad = some (.int .i64 0) := by simpa [Addr.add] using i0
          have d0 : v.cell? ac = some (.int .i64 0) := by simpa [Addr.add] using d0
          go_wp2_with fail
          go_roundw
          case rel => exact ⟨0 + 1, by omega, by first | go_num | rfl, HV⟩
          case measure => simp [intOf] <;> omega
        · go_wp2_with fail
          go_roundw
          case rel => exact ⟨n + 1, by omega, by go_num, HV⟩
          case measure => simp [intOf] <;> omega
      · obtain ⟨z1, z2, z3⟩ := e1
        obtain ⟨⟨fa1, fa2⟩, ⟨fa3, fa4⟩, -⟩ := frP_iff.1 FX.fi
        obtain ⟨⟨fb1, fb2⟩, ⟨fb3, fb4⟩, -⟩ := frP_iff.1 FX.fc
        obtain ⟨ff1, ff2⟩ := FX.fb
        obtain ⟨_, e, f_n⟩ := hv.r3.intN FX.xF
        injection e with e
        subst e
        obtain ⟨_, e, p_n⟩ := hv.r1.intN FX.xP
        injection e with e
        subst e
        have HQ1 := Lib.hid z1
        have HQ2 := Lib.hid z2
        have HQ3 := Lib.hid z3
        have FXH := Lib.hid FX
        have rCv := Lib.hid (rC.below HV (Nat.le_refl _))
        clear z1 z2 z3 FX hv
        generalize (nP I n).1 = x1 at *
        generalize (nP I n).2 = x2 at *
        generalize hy1 : (nP C n).1 = y1 at *
        generalize hy2 : (nP C n).2 = y2 at *
        replace hy1 := Lib.hid hy1
        replace hy2 := Lib.hid hy2
        generalize nth F n = f at *
        by_cases h0 : n = 0
        · subst h0
          have m1 : 0 < W.length := FXH.out.xW
          have m2 : 0 < F.length := FXH.out.xF
          have m3 : 0 < C.length := FXH.out.xC
          have m4 : 0 < P.length := FXH.out.xP
          have w_n : v.cell? a2 = some (.int .i64 (nth W 0)) := by simpa [Addr.add] using w_n
          have f_n : v.cell? a3 = some (.int .i64 f) := by simpa [Addr.add] using f_n
          have i0 : v.cell? ad = some (.int .i64 x1) := by simpa [Addr.add] using i0
          have i1 : v.cell? ⟨ad.block, ad.off + 1, none⟩ = some (.int .i64 x2) := by simpa [Addr.add] using i1
          have d0 : v.cell? ac = some (.int .i64 y1) := by simpa [Addr.add] using d0
          have d1 : v.cell? ⟨ac.block, ac.off + 1, none⟩ = some (.int .i64 y2) := by simpa [Addr.add] using d1
          go_upto_region 24 with fail
          skip
          have hd1 : Below v.heap.size v v.drew := Below.drew (Below.refl _ _)
          have SK1 : Hid (∀ w', Below v.heap.size v w' → w'.cell? ad = some (.int .i64 x1) ∧ w'.cell? ⟨ad.block, ad.off + 1, none⟩ = some (.int .i64 x2) ∧ w'.cell? ac = some (.int .i64 y1) ∧ w'.cell? ⟨ac.block, ac.off + 1, none⟩ = some (.int .i64 y2) ∧ w'.cell? ⟨gm, 2, none⟩ = some (.slice (some a3) F.length c3) ∧ w'.cell? a3 = some (.int .i64 f)) := Lib.hid fun w' HV => ⟨(HV.cell (cell_lt i0)).trans i0, (HV.cell (cell_lt i1)).trans i1, (HV.cell (cell_lt d0)).trans d0, (HV.cell (cell_lt d1)).trans d1, (HV.cell (p := ⟨gm, 2, none⟩) k3).trans k2, (HV.cell (cell_lt f_n)).trans f_n⟩
          clear i0 i1 d0 d1 k0 k1 k2 f_n w_n p_n
          have hS1_0 := SK1.out _ hd1
          refine tamed_region (S := fun w' => w'.cell? ad = some (.int .i64 x1) ∧ w'.cell? ⟨ad.block, ad.off + 1, none⟩ = some (.int .i64 x2) ∧ w'.cell? ac = some (.int .i64 y1) ∧ w'.cell? ⟨ac.block, ac.off + 1, none⟩ = some (.int .i64 y2) ∧ w'.cell? ⟨gm, 2, none⟩ = some (.slice (some a3) F.length c3) ∧ w'.cell? a3 = some (.int .i64 f)) (fun _ => false) (by kernel_rfl) ?_
          refine tame0 (k := 0) ?_ rfl (by kernel_rfl) (by kernel_rfl) (by kernel_rfl) (fun _ _ _ h => h) (by kernel_rfl) (fun v => ?_) ?_
          rotate_left
          · (go_simp; all_goals rfl)
          simp only [Act.put, List.setIfInBounds_toArray]
          refine tame0 (k := 1) ?_ rfl (by kernel_rfl) (by kernel_rfl) (by kernel_rfl) (fun _ _ _ h => h) (by kernel_rfl) (fun v => ?_) ?_
          rotate_left
          · (go_simp; all_goals rfl)
          simp only [Act.put]
          refine tame0 (k := 2) ?_ rfl (by kernel_rfl) (by kernel_rfl) (by kernel_rfl) (fun _ _ _ h => h) (by kernel_rfl) (fun v => ?_) ?_
          rotate_left
          · (go_simp; all_goals rfl)
          simp only [Act.put]
          refine tame (k := 3) ?_ rfl (by kernel_rfl) (by kernel_rfl) (by kernel_rfl) (by kernel_rfl) (fun _ _ _ h => h) (by kernel_rfl) hS1_0 (fun v hv => ?_) ?_
          rotate_left
          · (obtain ⟨k1, k2, k3, k4, k5, k6⟩ := hv; go_simp; all_goals rfl)
          simp only [Act.put]
          refine tame0 (k := 4) ?_ rfl (by kernel_rfl) (by kernel_rfl) (by kernel_rfl) (fun _ _ _ h => h) (by kernel_rfl) (fun v => ?_) ?_
          rotate_left
          · (go_simp; all_goals rfl)
          simp only [Act.put]
          refine tame (k := 5) ?_ rfl (by kernel_rfl) (by kernel_rfl) (by kernel_rfl) (by kernel_rfl) (fun _ _ _ h => h) (by kernel_rfl) hS1_0 (fun v hv => ?_) ?_
          rotate_left
          · (obtain ⟨k1, k2, k3, k4, k5, k6⟩ := hv; go_simp; all_goals rfl)
          simp only [Act.put]
          refine tame0 (k := 6) ?_ rfl (by kernel_rfl) (by kernel_rfl) (by kernel_rfl) (fun _ _ _ h => h) (by kernel_rfl) (fun v => ?_) ?_
          rotate_left
          · (go_simp; all_goals rfl)
          simp only [Act.put]
          refine tame0 (k := 7) ?_ rfl (by kernel_rfl) (by kernel_rfl) (by kernel_rfl) (fun _ _ _ h => h) (by kernel_rfl) (fun v => ?_) ?_
          rotate_left
          · (go_simp; all_goals rfl)
          simp only [Act.put]
          refine tame (k := 8) ?_ rfl (by kernel_rfl) (by kernel_rfl) (by kernel_rfl) (by kernel_rfl) (fun _ _ _ h => h) (by kernel_rfl) hS1_0 (fun v hv => ?_) ?_
          rotate_left
          · (obtain ⟨k1, k2, k3, k4, k5, k6⟩ := hv; go_simp; all_goals rfl)
          simp only [Act.put]
          refine tame0 (k := 9) ?_ rfl (by kernel_rfl) (by kernel_rfl) (by kernel_rfl) (fun _ _ _ h => h) (by kernel_rfl) (fun v => ?_) ?_
          rotate_left
          · (go_simp; all_goals rfl)
          simp only [Act.put]
          refine tame_one (k := 10) (by kernel_rfl) rfl (by kernel_rfl) ?_
          go_simp
          refine (rLess_is _ _ _ _ false HQ1.out (by omega) (by omega) (by omega) (by omega) _).mono ?_
          rintro e w5 ⟨rfl, b5⟩
          have hd1_1 := bUp hd1 b5 (Nat.le_refl _)
          have hS1_1 := Lib.hid (SK1.out _ hd1_1)
          refine ⟨by first | exact hS1_1 | exact Hid.out hS1_1, ?_⟩
          refine tame0 (k := 11) ?_ rfl (by kernel_rfl) (by kernel_rfl) (by kernel_rfl) (fun _ _ _ h => h) (by kernel_rfl) (fun v => ?_) ?_
          rotate_left
          · (go_simp; all_goals rfl)
          simp only [Act.put]
          refine tame0 (k := 12) ?_ rfl (by kernel_rfl) (by kernel_rfl) (by kernel_rfl) (fun _ _ _ h => h) (by kernel_rfl) (fun v => ?_) ?_
          rotate_left
          · (go_simp; all_goals rfl)
          simp only [Act.put]
          refine tame0 (k := 13) ?_ rfl (by kernel_rfl) (by kernel_rfl) (by kernel_rfl) (fun _ _ _ h => h) (by kernel_rfl) (fun v => ?_) ?_
          rotate_left
          · (go_simp; all_goals rfl)
          simp only [Act.put]
          refine tame0 (k := 14) ?_ rfl (by kernel_rfl) (by kernel_rfl) (by kernel_rfl) (fun _ _ _ h => h) (by kernel_rfl) (fun v => ?_) ?_
          rotate_left
          · (go_simp; all_goals rfl)
          simp only [Act.put]
          have hS1_1o := Hid.out hS1_1
          refine tame (k := 15) ?_ rfl (by kernel_rfl) (by kernel_rfl) (by kernel_rfl) (by kernel_rfl) (fun _ _ _ h => h) (by kernel_rfl) hS1_1o (fun v hv => ?_) ?_
          rotate_left
          · (obtain ⟨k1, k2, k3, k4, k5, k6⟩ := hv; go_simp; all_goals rfl)
          simp only [Act.put]
          refine tame0 (k := 16) ?_ rfl (by kernel_rfl) (by kernel_rfl) (by kernel_rfl) (fun _ _ _ h => h) (by kernel_rfl) (fun v => ?_) ?_
          rotate_left
          · (go_simp; all_goals rfl)
          simp only [Act.put]
          refine tame0 (k := 17) ?_ rfl (by kernel_rfl) (by kernel_rfl) (by kernel_rfl) (fun _ _ _ h => h) (by kernel_rfl) (fun v => ?_) ?_
          rotate_left
          · (go_simp; all_goals rfl)
          simp only [Act.put]
          refine tame0 (k := 18) ?_ rfl (by kernel_rfl) (by kernel_rfl) (by kernel_rfl) (fun _ _ _ h => h) (by kernel_rfl) (fun v => ?_) ?_
          rotate_left
          · (go_simp; all_goals rfl)
          simp only [Act.put]
          refine tame (k := 19) ?_ rfl (by kernel_rfl) (by kernel_rfl) (by kernel_rfl) (by kernel_rfl) (fun _ _ _ h => h) (by kernel_rfl) hS1_1o (fun v hv => ?_) ?_
          rotate_left
          · (obtain ⟨k1, k2, k3, k4, k5, k6⟩ := hv; go_simp; all_goals rfl)
          simp only [Act.put]
          refine tame_one (k := 20) (by kernel_rfl) rfl (by kernel_rfl) ?_
          go_simp
          refine (rLess_is _ _ _ _ false HQ2.out (by omega) (by omega) (by omega) (by omega) _).mono ?_
          rintro e w6 ⟨rfl, b6⟩
          have hd1_2 := bUp hd1_1 b6 hd1_1.size
          have hS1_2 := Lib.hid (SK1.out _ hd1_2)
          refine ⟨by first | exact hS1_2 | exact Hid.out hS1_2, ?_⟩
          refine tame0 (k := 21) ?_ rfl (by kernel_rfl) (by kernel_rfl) (by kernel_rfl) (fun _ _ _ h => h) (by kernel_rfl) (fun v => ?_) ?_
          rotate_left
          · (go_simp; all_goals rfl)
          simp only [Act.put]
          refine tame0 (k := 22) ?_ rfl (by kernel_rfl) (by kernel_rfl) (by kernel_rfl) (fun _ _ _ h => h) (by kernel_rfl) (fun v => ?_) ?_
          rotate_left
          · (go_simp; all_goals rfl)
          simp only [Act.put]
          refine tame0 (k := 23) ?_ rfl (by kernel_rfl) (by kernel_rfl) (by kernel_rfl) (fun _ _ _ h => h) (by kernel_rfl) (fun v => ?_) ?_
          rotate_left
          · (go_simp; all_goals rfl)
          simp only [Act.put]
          refine tame0 (k := 24) ?_ rfl (by kernel_rfl) (by kernel_rfl) (by kernel_rfl) (fun _ _ _ h => h) (by kernel_rfl) (fun v => ?_) ?_
          rotate_left
          · (go_simp; all_goals rfl)
          simp only [Act.put]
          refine tame0 (k := 25) ?_ rfl (by kernel_rfl) (by kernel_rfl) (by kernel_rfl) (fun _ _ _ h => h) (by kernel_rfl) (fun v => ?_) ?_
          rotate_left
          · (go_simp; all_goals rfl)
          simp only [Act.put]
          refine tame_no (k := 26) rfl (by kernel_rfl) (by kernel_rfl) (by kernel_rfl) (fun _ _ _ h => h) (by kernel_rfl) ?_
          simp only [Act.put]
          refine tame_no (k := 27) rfl (by kernel_rfl) (by kernel_rfl) (by kernel_rfl) (fun _ _ _ h => h) (by kernel_rfl) ?_
          simp only [Act.put]
          refine tame_no (k := 28) rfl (by kernel_rfl) (by kernel_rfl) (by kernel_rfl) (fun _ _ _ h => h) (by kernel_rfl) ?_
          simp only [Act.put]
          refine tame_no (k := 29) rfl (by kernel_rfl) (by kernel_rfl) (by kernel_rfl) (fun _ _ _ h => h) (by kernel_rfl) ?_
          simp only [Act.put]
          refine tame_no (k := 30) rfl (by kernel_rfl) (by kernel_rfl) (by kernel_rfl) (fun _ _ _ h => h) (by kernel_rfl) ?_
          simp only [Act.put]
          refine tame_no (k := 31) rfl (by kernel_rfl) (by kernel_rfl) (by kernel_rfl) (fun _ _ _ h => h) (by kernel_rfl) ?_
          simp only [Act.put]
          refine tame_no (k := 32) rfl (by kernel_rfl) (by kernel_rfl) (by kernel_rfl) (fun _ _ _ h => h) (by kernel_rfl) ?_
          simp only [Act.put]
          refine tame_no (k := 33) rfl (by kernel_rfl) (by kernel_rfl) (by kernel_rfl) (fun _ _ _ h => h) (by kernel_rfl) ?_
          simp only [Act.put]
          refine tame_no (k := 34) rfl (by kernel_rfl) (by kernel_rfl) (by kernel_rfl) (fun _ _ _ h => h) (by kernel_rfl) ?_
          simp only [Act.put]
          refine tame_no (k := 35) rfl (by kernel_rfl) (by kernel_rfl) (by kernel_rfl) (fun _ _ _ h => h) (by kernel_rfl) ?_
          simp only [Act.put]
          refine tame_no (k := 36) rfl (by kernel_rfl) (by kernel_rfl) (by kernel_rfl) (fun _ _ _ h => h) (by kernel_rfl) ?_
          simp only [Act.put]
          refine tame_no (k := 37) rfl (by kernel_rfl) (by kernel_rfl) (by kernel_rfl) (fun _ _ _ h => h) (by kernel_rfl) ?_
          simp only [Act.put]
          refine tame_no (k := 38) rfl (by kernel_rfl) (by kernel_rfl) (by kernel_rfl) (fun _ _ _ h => h) (by kernel_rfl) ?_
          simp only [Act.put]
          refine tame_no (k := 39) rfl (by kernel_rfl) (by kernel_rfl) (by kernel_rfl) (fun _ _ _ h => h) (by kernel_rfl) ?_
          simp only [Act.put]
          refine tame0 (k := 40) ?_ rfl (by kernel_rfl) (by kernel_rfl) (by kernel_rfl) (fun _ _ _ h => h) (by kernel_rfl) (fun v => ?_) ?_
          rotate_left
          · (go_simp; all_goals rfl)
          simp only [Act.put]
          refine tame_one (k := 41) (by kernel_rfl) rfl (by kernel_rfl) ?_
          go_simp
          refine ⟨by first | exact hS1_2 | exact Hid.out hS1_2, ?_⟩
          refine tame_end (by kernel_rfl) ?_
          go_wp2_with fail
          go_roundw
          case rel => exact ⟨0 + 1, by omega, by first | go_num | rfl, bUp HV hd1_2 HV.size⟩
          case measure => simp [intOf] <;> omega
        · obtain ⟨p, hp, hpc, hpf, hpq⟩ := HQ3.out h0
          rw [hp] at p_n
          obtain ⟨p0, p1⟩ := pairCells rCv.out hpc
          obtain ⟨⟨fc1, fc2⟩, ⟨fc3, fc4⟩, -⟩ := frP_iff.1 hpf
          have HQ4 := Lib.hid hpq
          have jp : (p : Int) < (C.length : Int) := by omega
          have n0 : (0 : Int) < (n : Int) := by omega
          have n0N : 0 < n := by omega
          clear hp hpf hpq HQ3
          generalize (nP C p).1 = t1 at *
          generalize (nP C p).2 = t2 at *
          go_upto_region 24 with fail
          have hd2 : Below v.heap.size v v.drew := Below.drew (Below.refl _ _)
          have SK2 : Hid (∀ w', Below v.heap.size v w' → w'.cell? (ad.add (n * 2)) = some (.int .i64 x1) ∧ w'.cell? ⟨(ad.add (n * 2)).block, (ad.add (n * 2)).off + 1, none⟩ = some (.int .i64 x2) ∧ w'.cell? (ac.add (n * 2)) = some (.int .i64 y1) ∧ w'.cell? ⟨(ac.add (n * 2)).block, (ac.add (n * 2)).off + 1, none⟩ = some (.int .i64 y2) ∧ w'.cell? ⟨gm, 2, none⟩ = some (.slice (some a3) F.length c3) ∧ w'.cell? (a3.add n) = some (.int .i64 f) ∧ w'.cell? ⟨gm, 0, none⟩ = some (.slice (some a1) P.length c1) ∧ w'.cell? (a1.add n) = some (.int .i64 (p : Int)) ∧ w'.cell? (ac.add (p * 2)) = some (.int .i64 t1) ∧ w'.cell? ⟨(ac.add (p * 2)).block, (ac.add (p * 2)).off + 1, none⟩ = some (.int .i64 t2)) := Lib.hid fun w' HV => ⟨(HV.cell (cell_lt i0)).trans i0, (HV.cell (cell_lt i1)).trans i1, (HV.cell (cell_lt d0)).trans d0, (HV.cell (cell_lt d1)).trans d1, (HV.cell (p := ⟨gm, 2, none⟩) k3).trans k2, (HV.cell (cell_lt f_n)).trans f_n, (HV.cell (p := ⟨gm, 0, none⟩) k3).trans k0, (HV.cell (cell_lt p_n)).trans p_n, (HV.cell (cell_lt p0)).trans p0, (HV.cell (cell_lt p1)).trans p1⟩
          clear i0 i1 d0 d1 k0 k1 k2 f_n w_n p_n p0 p1
          have hS2_0 := SK2.out _ hd2
          refine tamed_region (S := fun w' => w'.cell? (ad.add (n * 2)) = some (.int .i64 x1) ∧ w'.cell? ⟨(ad.add (n * 2)).block, (ad.add (n * 2)).off + 1, none⟩ = some (.int .i64 x2) ∧ w'.cell? (ac.add (n * 2)) = some (.int .i64 y1) ∧ w'.cell? ⟨(ac.add (n * 2)).block, (ac.add (n * 2)).off + 1, none⟩ = some (.int .i64 y2) ∧ w'.cell? ⟨gm, 2, none⟩ = some (.slice (some a3) F.length c3) ∧ w'.cell? (a3.add n) = some (.int .i64 f) ∧ w'.cell? ⟨gm, 0, none⟩ = some (.slice (some a1) P.length c1) ∧ w'.cell? (a1.add n) = some (.int .i64 (p : Int)) ∧ w'.cell? (ac.add (p * 2)) = some (.int .i64 t1) ∧ w'.cell? ⟨(ac.add (p * 2)).block, (ac.add (p * 2)).off + 1, none⟩ = some (.int .i64 t2)) (fun _ => false) (by kernel_rfl) ?_
          refine tame0 (k := 0) ?_ rfl (by kernel_rfl) (by kernel_rfl) (by kernel_rfl) (fun _ _ _ h => h) (by kernel_rfl) (fun v => ?_) ?_
          rotate_left
          · (go_simp; all_goals rfl)
          simp only [Act.put, List.setIfInBounds_toArray]
          refine tame0 (k := 1) ?_ rfl (by kernel_rfl) (by kernel_rfl) (by kernel_rfl) (fun _ _ _ h => h) (by kernel_rfl) (fun v => ?_) ?_
          rotate_left
          · (go_simp; all_goals rfl)
          simp only [Act.put]
          refine tame0 (k := 2) ?_ rfl (by kernel_rfl) (by kernel_rfl) (by kernel_rfl) (fun _ _ _ h => h) (by kernel_rfl) (fun v => ?_) ?_
          rotate_left
          · (go_simp; all_goals rfl)
          simp only [Act.put]
          refine tame (k := 3) ?_ rfl (by kernel_rfl) (by kernel_rfl) (by kernel_rfl) (by kernel_rfl) (fun _ _ _ h => h) (by kernel_rfl) hS2_0 (fun v hv => ?_) ?_
          rotate_left
          · (obtain ⟨k1, k2, k3, k4, k5, k6, k7, k8, k9, k10⟩ := hv; go_simp; all_goals rfl)
          simp only [Act.put]
          refine tame0 (k := 4) ?_ rfl (by kernel_rfl) (by kernel_rfl) (by kernel_rfl) (fun _ _ _ h => h) (by kernel_rfl) (fun v => ?_) ?_
          rotate_left
          · (go_simp; all_goals rfl)
          simp only [Act.put]
          refine tame (k := 5) ?_ rfl (by kernel_rfl) (by kernel_rfl) (by kernel_rfl) (by kernel_rfl) (fun _ _ _ h => h) (by kernel_rfl) hS2_0 (fun v hv => ?_) ?_
          rotate_left
          · (obtain ⟨k1, k2, k3, k4, k5, k6, k7, k8, k9, k10⟩ := hv; go_simp; all_goals rfl)
          simp only [Act.put]
          refine tame0 (k := 6) ?_ rfl (by kernel_rfl) (by kernel_rfl) (by kernel_rfl) (fun _ _ _ h => h) (by kernel_rfl) (fun v => ?_) ?_
          rotate_left
          · (go_simp; all_goals rfl)
          simp only [Act.put]
          refine tame0 (k := 7) ?_ rfl (by kernel_rfl) (by kernel_rfl) (by kernel_rfl) (fun _ _ _ h => h) (by kernel_rfl) (fun v => ?_) ?_
          rotate_left
          · (go_simp; all_goals rfl)
          simp only [Act.put]
          refine tame (k := 8) ?_ rfl (by kernel_rfl) (by kernel_rfl) (by kernel_rfl) (by kernel_rfl) (fun _ _ _ h => h) (by kernel_rfl) hS2_0 (fun v hv => ?_) ?_
          rotate_left
          · (obtain ⟨k1, k2, k3, k4, k5, k6, k7, k8, k9, k10⟩ := hv; go_simp; all_goals rfl)
          simp only [Act.put]
          refine tame0 (k := 9) ?_ rfl (by kernel_rfl) (by kernel_rfl) (by kernel_rfl) (fun _ _ _ h => h) (by kernel_rfl) (fun v => ?_) ?_
          rotate_left
          · (go_simp; all_goals rfl)
          simp only [Act.put]
          refine tame_one (k := 10) (by kernel_rfl) rfl (by kernel_rfl) ?_
          go_simp
          refine (rLess_is _ _ _ _ false HQ1.out (by omega) (by omega) (by omega) (by omega) _).mono ?_
          rintro e w5 ⟨rfl, b5⟩
          have hd2_1 := bUp hd2 b5 (Nat.le_refl _)
          have hS2_1 := Lib.hid (SK2.out _ hd2_1)
          refine ⟨by first | exact hS2_1 | exact Hid.out hS2_1, ?_⟩
          refine tame0 (k := 11) ?_ rfl (by kernel_rfl) (by kernel_rfl) (by kernel_rfl) (fun _ _ _ h => h) (by kernel_rfl) (fun v => ?_) ?_
          rotate_left
          · (go_simp; all_goals rfl)
          simp only [Act.put]
          refine tame0 (k := 12) ?_ rfl (by kernel_rfl) (by kernel_rfl) (by kernel_rfl) (fun _ _ _ h => h) (by kernel_rfl) (fun v => ?_) ?_
          rotate_left
          · (go_simp; all_goals rfl)
          simp only [Act.put]
          refine tame0 (k := 13) ?_ rfl (by kernel_rfl) (by kernel_rfl) (by kernel_rfl) (fun _ _ _ h => h) (by kernel_rfl) (fun v => ?_) ?_
          rotate_left
          · (go_simp; all_goals rfl)
          simp only [Act.put]
          refine tame0 (k := 14) ?_ rfl (by kernel_rfl) (by kernel_rfl) (by kernel_rfl) (fun _ _ _ h => h) (by kernel_rfl) (fun v => ?_) ?_
          rotate_left
          · (go_simp; all_goals rfl)
          simp only [Act.put]
          have hS2_1o := Hid.out hS2_1
          refine tame (k := 15) ?_ rfl (by kernel_rfl) (by kernel_rfl) (by kernel_rfl) (by kernel_rfl) (fun _ _ _ h => h) (by kernel_rfl) hS2_1o (fun v hv => ?_) ?_
          rotate_left
          · (obtain ⟨k1, k2, k3, k4, k5, k6, k7, k8, k9, k10⟩ := hv; go_simp; all_goals rfl)
          simp only [Act.put]
          refine tame0 (k := 16) ?_ rfl (by kernel_rfl) (by kernel_rfl) (by kernel_rfl) (fun _ _ _ h => h) (by kernel_rfl) (fun v => ?_) ?_
          rotate_left
          · (go_simp; all_goals rfl)
          simp only [Act.put]
          refine tame0 (k := 17) ?_ rfl (by kernel_rfl) (by kernel_rfl) (by kernel_rfl) (fun _ _ _ h => h) (by kernel_rfl) (fun v => ?_) ?_
          rotate_left
          · (go_simp; all_goals rfl)
          simp only [Act.put]
          refine tame0 (k := 18) ?_ rfl (by kernel_rfl) (by kernel_rfl) (by kernel_rfl) (fun _ _ _ h => h) (by kernel_rfl) (fun v => ?_) ?_
          rotate_left
          · (go_simp; all_goals rfl)
          simp only [Act.put]
          refine tame (k := 19) ?_ rfl (by kernel_rfl) (by kernel_rfl) (by kernel_rfl) (by kernel_rfl) (fun _ _ _ h => h) (by kernel_rfl) hS2_1o (fun v hv => ?_) ?_
          rotate_left
          · (obtain ⟨k1, k2, k3, k4, k5, k6, k7, k8, k9, k10⟩ := hv; go_simp; all_goals rfl)
          simp only [Act.put]
          refine tame_one (k := 20) (by kernel_rfl) rfl (by kernel_rfl) ?_
          go_simp
          refine (rLess_is _ _ _ _ false HQ2.out (by omega) (by omega) (by omega) (by omega) _).mono ?_
          rintro e w6 ⟨rfl, b6⟩
          have hd2_2 := bUp hd2_1 b6 hd2_1.size
          have hS2_2 := Lib.hid (SK2.out _ hd2_2)
          refine ⟨by first | exact hS2_2 | exact Hid.out hS2_2, ?_⟩
          refine tame0 (k := 21) ?_ rfl (by kernel_rfl) (by kernel_rfl) (by kernel_rfl) (fun _ _ _ h => h) (by kernel_rfl) (fun v => ?_) ?_
          rotate_left
          · (go_simp; all_goals rfl)
          simp only [Act.put]
          refine tame0 (k := 22) ?_ rfl (by kernel_rfl) (by kernel_rfl) (by kernel_rfl) (fun _ _ _ h => h) (by kernel_rfl) (fun v => ?_) ?_
          rotate_left
          · (go_simp; all_goals rfl)
          simp only [Act.put]
          refine tame0 (k := 23) ?_ rfl (by kernel_rfl) (by kernel_rfl) (by kernel_rfl) (fun _ _ _ h => h) (by kernel_rfl) (fun v => ?_) ?_
          rotate_left
          · (go_simp; all_goals rfl)
          simp only [Act.put]
          refine tame0 (k := 24) ?_ rfl (by kernel_rfl) (by kernel_rfl) (by kernel_rfl) (fun _ _ _ h => h) (by kernel_rfl) (fun v => ?_) ?_
          rotate_left
          · (go_simp; all_goals rfl)
          simp only [Act.put]
          refine tame0 (k := 25) ?_ rfl (by kernel_rfl) (by kernel_rfl) (by kernel_rfl) (fun _ _ _ h => h) (by kernel_rfl) (fun v => ?_) ?_
          rotate_left
          · (go_simp; all_goals rfl)
          simp only [Act.put]
          refine tame0 (k := 26) ?_ rfl (by kernel_rfl) (by kernel_rfl) (by kernel_rfl) (fun _ _ _ h => h) (by kernel_rfl) (fun v => ?_) ?_
          rotate_left
          · (go_simp; all_goals rfl)
          simp only [Act.put]
          refine tame0 (k := 27) ?_ rfl (by kernel_rfl) (by kernel_rfl) (by kernel_rfl) (fun _ _ _ h => h) (by kernel_rfl) (fun v => ?_) ?_
          rotate_left
          · (go_simp; all_goals rfl)
          simp only [Act.put]
          refine tame0 (k := 28) ?_ rfl (by kernel_rfl) (by kernel_rfl) (by kernel_rfl) (fun _ _ _ h => h) (by kernel_rfl) (fun v => ?_) ?_
          rotate_left
          · (go_simp; all_goals rfl)
          simp only [Act.put]
          have hS2_2o := Hid.out hS2_2
          refine tame (k := 29) ?_ rfl (by kernel_rfl) (by kernel_rfl) (by kernel_rfl) (by kernel_rfl) (fun _ _ _ h => h) (by kernel_rfl) hS2_2o (fun v hv => ?_) ?_
          rotate_left
          · (obtain ⟨k1, k2, k3, k4, k5, k6, k7, k8, k9, k10⟩ := hv; go_simp; all_goals rfl)
          simp only [Act.put]
          refine tame0 (k := 30) ?_ rfl (by kernel_rfl) (by kernel_rfl) (by kernel_rfl) (fun _ _ _ h => h) (by kernel_rfl) (fun v => ?_) ?_
          rotate_left
          · (go_simp; all_goals rfl)
          simp only [Act.put]
          refine tame0 (k := 31) ?_ rfl (by kernel_rfl) (by kernel_rfl) (by kernel_rfl) (fun _ _ _ h => h) (by kernel_rfl) (fun v => ?_) ?_
          rotate_left
          · (go_simp; all_goals rfl)
          simp only [Act.put]
          refine tame (k := 32) ?_ rfl (by kernel_rfl) (by kernel_rfl) (by kernel_rfl) (by kernel_rfl) (fun _ _ _ h => h) (by kernel_rfl) hS2_2o (fun v hv => ?_) ?_
          rotate_left
          · (obtain ⟨k1, k2, k3, k4, k5, k6, k7, k8, k9, k10⟩ := hv; go_simp; all_goals rfl)
          simp only [Act.put]
          refine tame0 (k := 33) ?_ rfl (by kernel_rfl) (by kernel_rfl) (by kernel_rfl) (fun _ _ _ h => h) (by kernel_rfl) (fun v => ?_) ?_
          rotate_left
          · (go_simp; all_goals rfl)
          simp only [Act.put]
          refine tame (k := 34) ?_ rfl (by kernel_rfl) (by kernel_rfl) (by kernel_rfl) (by kernel_rfl) (fun _ _ _ h => h) (by kernel_rfl) hS2_2o (fun v hv => ?_) ?_
          rotate_left
          · (obtain ⟨k1, k2, k3, k4, k5, k6, k7, k8, k9, k10⟩ := hv; go_simp; all_goals rfl)
          simp only [Act.put]
          refine tame0 (k := 35) ?_ rfl (by kernel_rfl) (by kernel_rfl) (by kernel_rfl) (fun _ _ _ h => h) (by kernel_rfl) (fun v => ?_) ?_
          rotate_left
          · (go_simp; all_goals rfl)
          simp only [Act.put]
          refine tame0 (k := 36) ?_ rfl (by kernel_rfl) (by kernel_rfl) (by kernel_rfl) (fun _ _ _ h => h) (by kernel_rfl) (fun v => ?_) ?_
          rotate_left
          · (go_simp; all_goals rfl)
          simp only [Act.put]
          refine tame0 (k := 37) ?_ rfl (by kernel_rfl) (by kernel_rfl) (by kernel_rfl) (fun _ _ _ h => h) (by kernel_rfl) (fun v => ?_) ?_
          rotate_left
          · (go_simp; all_goals rfl)
          simp only [Act.put]
          refine tame (k := 38) ?_ rfl (by kernel_rfl) (by kernel_rfl) (by kernel_rfl) (by kernel_rfl) (fun _ _ _ h => h) (by kernel_rfl) hS2_2o (fun v hv => ?_) ?_
          rotate_left
          · (obtain ⟨k1, k2, k3, k4, k5, k6, k7, k8, k9, k10⟩ := hv; go_simp; all_goals rfl)
          simp only [Act.put]
          refine tame_one (k := 39) (by kernel_rfl) rfl (by kernel_rfl) ?_
          go_simp
          refine (rLess_is _ _ _ _ false HQ4.out (by omega) (by omega) (by omega) (by omega) _).mono ?_
          rintro e w7 ⟨rfl, b7⟩
          have hd2_3 := bUp hd2_2 b7 hd2_2.size
          have hS2_3 := Lib.hid (SK2.out _ hd2_3)
          refine ⟨by first | exact hS2_3 | exact Hid.out hS2_3, ?_⟩
          refine tame0 (k := 40) ?_ rfl (by kernel_rfl) (by kernel_rfl) (by kernel_rfl) (fun _ _ _ h => h) (by kernel_rfl) (fun v => ?_) ?_
          rotate_left
          · (go_simp; all_goals rfl)
          simp only [Act.put]
          refine tame_one (k := 41) (by kernel_rfl) rfl (by kernel_rfl) ?_
          go_simp
          refine ⟨by first | exact hS2_3 | exact Hid.out hS2_3, ?_⟩
          refine tame_end (by kernel_rfl) ?_
          go_wp2_with fail
          go_roundw
          case rel => exact ⟨n + 1, by omega, by go_num, bUp HV hd2_3 HV.size⟩
          case measure => simp [intOf] <;> omega
    · go_wp2_with fail
      refine hK1.out _ _ ?_
      exact fiFair A bs c w0 _ (rc.below HV (Nat.le_refl _)) hb hl (bUp HB HV HB.size) _ _ _ _ _ _ _ _ _ _ _ _ _ _ _ _ _ _ _ _ _ _ _ _ _ _ _ _ _ _ _ _ _ _ _ _ _ _ _ _ _ _ _ _ _ _ _ _ _ _ _ _ _ _ _ _ _ _ _ _ _ _ _ _ _ _ _ _ _ _ _ _ _ _ _ _ _ _ _ _ _ _ _ _ _ _ _ _ _ _ _ _ _ _ _ _ _ _ _ _ _ _ _ _ _ _ _ _ _ _ _ _ _ _ _ _ _ _ _ _ _ _ _ _ _ _ _ _ _ _ _ _ _ _ _ _ _ _ _ _ _ _ _ _ _ _ _ _ _ _ _ _ _ _ _ _ _ _ _ _ _ _ _ _ _ _ _ _ _ _ _ _ _ _ _ _ _ _ _ _ _ _ _ _ _ _ _ _ _ _ _ _ _ _ _ _ _ _ _ _ _ _ _ _ _ _ _ _ _ _ _ _ _ _ _ _ _ _ _ _ _ _ _ _ _ _ _ _ _ _ _ _ _ _ _ _ _ _ _ _ _ _ _ _ _ _ _ _ _ _ _ _ _ _ _ _ _ _ _ _ _ _ _ _ _ _ _ _ _ _ _ _ _ _ _ _ _ _ _ _ _ _ _ _ _ _ _ _ _ _ _ _ _ _ _ _ _ _ _ _ _ _ _ _ _ _ _ _ _ _ _ _ _ _ _ _ _ _ _ _ _ _ _ _ _ _ _ _ _ _ _ _ _ _ _ _ _ _ _ _ _ _ _ _ _ _ _ _ _ _ _ _ _ _ _ _ _ _ _ _ _ _ _ _ _ _ _ _ _ _ _ _ _ _ _ _ _ _ _ _ _ _ _ _ _ _ _ _ _ _ _ _ _ _ _ _ _ _ _ _ _ _ _ _ _ _ _ _ _ _ _

set_option maxRecDepth 20000 in
set_option maxHeartbeats 1000000 in
theorem rBigI_c (A : Option Addr) (bs : List Int) (c : Nat) (w : World) (_hl : bs.length ≤ 9223372036854775807) :
    Calls Try.prog 5 #[.slice A bs.length c] w fun e w' => e = .returned (.bool (decide (65536 < (bs.length : Int)))) ∧ w = w' := by
  go_enter Try.func5, Try.ntmps5
  go_wp2
  go_ret
  exact ⟨rfl, rfl⟩
/-- What the law asks of a playing in a set. -/
structure PlLaw (f1 f2 g1 g2 i1 i2 : Int) : Prop where
  e1 : IntKind.i64.wrap (f1 * i2) = f1 * i2
  e2 : IntKind.i64.wrap (f1 * i2 * g2) = f1 * i2 * g2
  e3 : IntKind.i64.wrap (i1 * g1) = i1 * g1
  e4 : IntKind.i64.wrap (i1 * g1 * f2) = i1 * g1 * f2
  le : f1 * i2 * g2 ≤ i1 * g1 * f2
def PlIf (t ib : Bool) (f1 f2 g1 g2 : Int) (I : List (Int × Int)) : Prop := t = true → ib = true ∧ 0 < I.length ∧ PlLaw f1 f2 g1 g2 (nP I 0).1 (nP I 0).2
theorem pl_if {P W F : List Int} {a b : Int} {S : List Int} : PlIf (pgB P W F a b S) (ixB P W F a b) (pgF P W F a b S).1 (pgF P W F a b S).2 (pgG P W F a b S).1 (pgG P W F a b S).2 (ixV P W F a b) := fun h => by
  obtain ⟨hA, he, _⟩ := pg_set h
  have hn : 0 < P.length := by have := hA.arm.tree.n1; omega
  obtain ⟨h1, h2⟩ := ix_yes hA
  rw [h1]
  refine ⟨h2, by rw [ixL_len]; exact hn, ?_⟩
  rw [ixL_nP hn]
  obtain ⟨b1, b2, b3, b4⟩ := play_bd h
  have h99 := idx99 hA hn
  have hfr := frP_iff.1 (idx_fr hA hn)
  have hl := play_law h
  have m1 := mulAbs (x := (pgF P W F a b S).1) (y := (idxP P W F a b 0).2) (A := 41057280) (B := 1000000) b1 ⟨by omega, by omega⟩ (by decide)
  have m2 := mulAbs (x := (pgF P W F a b S).1 * (idxP P W F a b 0).2) (y := (pgG P W F a b S).2) (A := 41057280 * 1000000) (B := 46080) m1 ⟨by omega, by omega⟩ (by decide)
  have m3 := mulAbs2 (x := (idxP P W F a b 0).1) (y := (pgG P W F a b S).1) (A := 99000000) (B := 414720) ⟨by omega, by omega⟩ b3 (by decide) (by decide)
  have m4 := mulAbs (x := (idxP P W F a b 0).1 * (pgG P W F a b S).1) (y := (pgF P W F a b S).2) (A := 99000000 * 414720) (B := 46080) m3 ⟨by omega, by omega⟩ (by decide)
  exact ⟨IntWalk.i64_in _ (by omega), IntWalk.i64_in _ (by omega), IntWalk.i64_in _ (by omega), IntWalk.i64_in _ (by omega), hl⟩

set_option maxRecDepth 100000 in
set_option maxHeartbeats 16000000 in
theorem lawFi (A : Option Addr) (bs : List Int) (c : Nat) (w : World) (rc : Rd w A (u8s bs)) (hb : ByOk bs) (hlen : bs.length ≤ 9223372036854775807) (_hc : bs.length ≤ c) :
    Calls Try.prog 3 #[.slice A bs.length c] w fun e w' => e = .returned (.bool true) ∧ Below w.heap.size w w' := by
  by_cases hbig : 65536 < (bs.length : Int)
  · have C := rBigI_c A bs c w hlen
    rw [decide_eq_true hbig] at C
    go_enter Try.func3, Try.ntmps3
    go_wp2_with fail
    refine C.mono ?_
    rintro e w' ⟨rfl, rfl⟩
    go_wp2
    go_ret
    exact ⟨rfl, Below.refl _ _⟩
  have hl : bs.length ≤ 65536 := by omega
  have C := rBigI_c A bs c w hlen
  rw [decide_eq_false hbig] at C
  clear hbig
  go_enter Try.func3, Try.ntmps3
  go_wp2_with fail
  refine C.mono ?_
  rintro e w' ⟨rfl, rfl⟩
  clear C
  go_wp2_with fail
  refine (drawPg_c A bs c w rc hb (by omega)).mono ?_
  rintro e w1 ⟨A1, c1, P, A2, c2, W, A3, c3, F, a, b, AS, cS, S, rfl, hP, hW, hF, hS, h, rS, b1⟩
  have blB : Below w1.heap.size w1 (w1.alloc (.cells #[.slice A1 P.length c1, .slice A2 W.length c2, .slice A3 F.length c3] 28)) := (Below.refl _ _).alloc (Nat.le_refl _) _
  have bx := Bx3.new w1 (.slice A1 P.length c1) (.slice A2 W.length c2) (.slice A3 F.length c3) 28
  have HB1 := bUp b1 blB b1.size
  replace h := h.below blB (Nat.le_refl _)
  replace rS := rS.below blB (Nat.le_refl _)
  replace rc := rc.below HB1 (Nat.le_refl _)
  have hpl := pl_if (P := P) (W := W) (F := F) (a := a) (b := b) (S := S)
  have hat := fun x => fi_at (P := P) (W := W) (F := F) (a := a) (b := b) (x := x)
  have P1 := fun (A1 : Option Addr) c1 (A2 : Option Addr) c2 (A3 : Option Addr) c3 AS cS w => implPg_c A1 P c1 A2 W c2 A3 F c3 a b AS S cS w
  have P2 := fun (A1 : Option Addr) c1 (A2 : Option Addr) c2 (A3 : Option Addr) c3 AS cS w => specPg_c A1 P c1 A2 W c2 A3 F c3 a b AS S cS w
  have I1 := fun (A1 : Option Addr) c1 (A2 : Option Addr) c2 (A3 : Option Addr) c3 w => implIx_c A1 P c1 A2 W c2 A3 F c3 a b w
  have I2 := fun (A1 : Option Addr) c1 (A2 : Option Addr) c2 (A3 : Option Addr) c3 w => specIx_c A1 P c1 A2 W c2 A3 F c3 a b w
  have G1 := fun (A1 : Option Addr) c1 (A2 : Option Addr) c2 (A3 : Option Addr) c3 w => implCg_c A1 P c1 A2 W c2 A3 F c3 a b w
  have G2 := fun (A1 : Option Addr) c1 (A2 : Option Addr) c2 (A3 : Option Addr) c3 w => specCg_c A1 P c1 A2 W c2 A3 F c3 a b w
  have lI : (ixV P W F a b).length ≤ 24 := Nat.le_trans ixV_len (by decide)
  have lC : (cgV P W F a b).length ≤ 24 := Nat.le_trans cgV_len (by decide)
  generalize (pgF P W F a b S).1 = f1 at *
  generalize (pgF P W F a b S).2 = f2 at *
  generalize (pgG P W F a b S).1 = g1 at *
  generalize (pgG P W F a b S).2 = g2 at *
  generalize pgB P W F a b S = t at *
  generalize ixV P W F a b = I at *
  generalize cgV P W F a b = C at *
  generalize ixB P W F a b = ib at *
  have HPL := Lib.hid hpl
  have HAT := Lib.hid hat
  have HP1 := Lib.hid P1
  have HP2 := Lib.hid P2
  have HI1 := Lib.hid I1
  have HI2 := Lib.hid I2
  have HG1 := Lib.hid G1
  have HG2 := Lib.hid G2
  have PE1 := fun w => (pair_eq f1 f2 f1 f2 w).trans (by rw [BEq.rfl, BEq.rfl, Bool.and_self])
  have PE2 := fun w => (pair_eq g1 g2 g1 g2 w).trans (by rw [BEq.rfl, BEq.rfl, Bool.and_self])
  clear hpl hat P1 P2 I1 I2 G1 G2 b1 blB
  go_wp2_with fail
  generalize w1.alloc (.cells #[.slice A1 P.length c1, .slice A2 W.length c2, .slice A3 F.length c3] 28) = v1 at *
  obtain ⟨gm, hgm⟩ : ∃ gm, gm = w1.heap.size := ⟨_, rfl⟩
  rw [← hgm] at bx ⊢
  clear hgm
  refine (HP1.out A1 c1 A2 c2 A3 c3 AS cS _ h rS (by omega)).mono ?_
  rintro e w2 ⟨rfl, bq⟩
  replace rc := rc.below bq (Nat.le_refl _)
  replace h := h.below bq (Nat.le_refl _)
  replace rS := rS.below bq (Nat.le_refl _)
  replace bx := bx.below bq
  have HB2 := bUp HB1 bq HB1.size
  clear HB1
  clear bq
  have bl7 : Below w2.heap.size w2 ((w2.alloc (.cells #[.int .i64 f1, .int .i64 f2] 31)).alloc (.cells #[.int .i64 g1, .int .i64 g2] 31)) := ((Below.refl _ _).alloc (Nat.le_refl _) _).alloc (by simp) _
  replace rc := rc.below bl7 (Nat.le_refl _)
  replace h := h.below bl7 (Nat.le_refl _)
  replace rS := rS.below bl7 (Nat.le_refl _)
  replace bx := bx.below bl7
  have HB3 := bUp HB2 bl7 HB2.size
  clear HB2
  have x7 := (Bx.new w2 (.int .i64 f1) (.int .i64 f2) 31).alloc (.cells #[.int .i64 g1, .int .i64 g2] 31)
  have x8 := Bx.new (w2.alloc (.cells #[.int .i64 f1, .int .i64 f2] 31)) (.int .i64 g1) (.int .i64 g2) 31
  rw [World.size_alloc] at x8
  clear bl7
  have k0 := bx.1
  have k1 := bx.2.1
  have k2 := bx.2.2.1
  go_wp2_with fail
  generalize (w2.alloc (.cells #[.int .i64 f1, .int .i64 f2] 31)).alloc (.cells #[.int .i64 g1, .int .i64 g2] 31) = v2 at *
  obtain ⟨g7, hg7⟩ : ∃ g7, g7 = w2.heap.size := ⟨_, rfl⟩
  rw [← hg7] at x7 x8 ⊢
  clear hg7
  refine (HP2.out A1 c1 A2 c2 A3 c3 AS cS _ h rS (by omega)).mono ?_
  rintro e w3 ⟨rfl, bq⟩
  clear k0 k1 k2
  replace rc := rc.below bq (Nat.le_refl _)
  replace h := h.below bq (Nat.le_refl _)
  replace rS := rS.below bq (Nat.le_refl _)
  replace bx := bx.below bq
  replace x7 := x7.below bq
  replace x8 := x8.below bq
  have HB4 := bUp HB3 bq HB3.size
  clear HB3
  clear bq
  have bl10 : Below w3.heap.size w3 ((w3.alloc (.cells #[.int .i64 f1, .int .i64 f2] 31)).alloc (.cells #[.int .i64 g1, .int .i64 g2] 31)) := ((Below.refl _ _).alloc (Nat.le_refl _) _).alloc (by simp) _
  replace rc := rc.below bl10 (Nat.le_refl _)
  replace h := h.below bl10 (Nat.le_refl _)
  replace rS := rS.below bl10 (Nat.le_refl _)
  replace bx := bx.below bl10
  replace x7 := x7.below bl10
  replace x8 := x8.below bl10
  have HB5 := bUp HB4 bl10 HB4.size
  clear HB4
  have x10 := (Bx.new w3 (.int .i64 f1) (.int .i64 f2) 31).alloc (.cells #[.int .i64 g1, .int .i64 g2] 31)
  have x11 := Bx.new (w3.alloc (.cells #[.int .i64 f1, .int .i64 f2] 31)) (.int .i64 g1) (.int .i64 g2) 31
  rw [World.size_alloc] at x11
  clear bl10
  have k0 := bx.1
  have k1 := bx.2.1
  have k2 := bx.2.2.1
  obtain ⟨ya0, ya1, ya2, ya3, ya4⟩ := id x7
  obtain ⟨yb0, yb1, yb2, yb3, yb4⟩ := id x8
  obtain ⟨yc0, yc1, yc2, yc3, yc4⟩ := id x10
  obtain ⟨yd0, yd1, yd2, yd3, yd4⟩ := id x11
  go_wp2_with fail
  generalize (w3.alloc (.cells #[.int .i64 f1, .int .i64 f2] 31)).alloc (.cells #[.int .i64 g1, .int .i64 g2] 31) = v3 at *
  clear x10 x11 ya0 ya1 ya2 ya3 ya4 yb0 yb1 yb2 yb3 yb4 yc0 yc1 yc2 yc3 yc4 yd0 yd1 yd2 yd3 yd4 PE1 PE2
  refine (HI1.out A1 c1 A2 c2 A3 c3 _ h).mono ?_
  rintro e w4 ⟨Ai1, ci1, rfl, oi1, bq⟩
  clear k0 k1 k2
  replace rc := rc.below bq (Nat.le_refl _)
  replace h := h.below bq (Nat.le_refl _)
  replace rS := rS.below bq (Nat.le_refl _)
  replace bx := bx.below bq
  replace x7 := x7.below bq
  replace x8 := x8.below bq
  have HB6 := bUp HB5 bq HB5.size
  clear HB5
  clear bq
  have ri1 := Rd.of_own oi1
  clear oi1
  have k0 := bx.1
  have k1 := bx.2.1
  have k2 := bx.2.2.1
  go_wp2_with fail
  refine (HI2.out A1 c1 A2 c2 A3 c3 _ h).mono ?_
  rintro e w5 ⟨Ai2, ci2, rfl, oi2, bq⟩
  clear k0 k1 k2
  replace rc := rc.below bq (Nat.le_refl _)
  replace h := h.below bq (Nat.le_refl _)
  replace rS := rS.below bq (Nat.le_refl _)
  replace bx := bx.below bq
  replace x7 := x7.below bq
  replace x8 := x8.below bq
  replace ri1 := ri1.below bq (Nat.le_refl _)
  have HB7 := bUp HB6 bq HB6.size
  clear HB6
  clear bq
  have ri2 := Rd.of_own oi2
  clear oi2
  skip
  obtain ⟨tb, htb⟩ : ∃ tb : Bool, (t && !ib) = tb := ⟨_, rfl⟩
  have htf : tb = false := by
    rw [← htb]
    cases t
    · rfl
    · rw [(HPL.out rfl).1]; rfl
  subst htf
  have HTB := Lib.hid htb
  clear htb
  cases t
  · go_wp2_with fail
    refine (rFracs_same Ai1 Ai2 I _ _ ci1 ci2 _ rfl rfl ri1 ri2 (by omega)).mono ?_
    rintro e w6 ⟨rfl, bq⟩
    replace rc := rc.below bq (Nat.le_refl _)
    replace h := h.below bq (Nat.le_refl _)
    replace rS := rS.below bq (Nat.le_refl _)
    replace bx := bx.below bq
    replace x7 := x7.below bq
    replace x8 := x8.below bq
    replace ri1 := ri1.below bq (Nat.le_refl _)
    replace ri2 := ri2.below bq (Nat.le_refl _)
    have HB8 := bUp HB7 bq HB7.size
    clear HB7
    clear bq
    clear ri2
    have k0 := bx.1
    have k1 := bx.2.1
    have k2 := bx.2.2.1
    go_wp2_with fail
    refine (HG1.out A1 c1 A2 c2 A3 c3 _ h).mono ?_
    rintro e w7 ⟨Ag1_, cg1_, rfl, og1_, bq⟩
    clear k0 k1 k2
    replace rc := rc.below bq (Nat.le_refl _)
    replace h := h.below bq (Nat.le_refl _)
    replace rS := rS.below bq (Nat.le_refl _)
    replace bx := bx.below bq
    replace x7 := x7.below bq
    replace x8 := x8.below bq
    replace ri1 := ri1.below bq (Nat.le_refl _)
    have HB9 := bUp HB8 bq HB8.size
    clear HB8
    clear bq
    have rg1_ := Rd.of_own og1_
    clear og1_
    have k0 := bx.1
    have k1 := bx.2.1
    have k2 := bx.2.2.1
    go_wp2_with fail
    refine (HG2.out A1 c1 A2 c2 A3 c3 _ h).mono ?_
    rintro e w8 ⟨Ag2_, cg2_, rfl, og2_, bq⟩
    clear k0 k1 k2
    replace rc := rc.below bq (Nat.le_refl _)
    replace h := h.below bq (Nat.le_refl _)
    replace rS := rS.below bq (Nat.le_refl _)
    replace bx := bx.below bq
    replace x7 := x7.below bq
    replace x8 := x8.below bq
    replace ri1 := ri1.below bq (Nat.le_refl _)
    replace rg1_ := rg1_.below bq (Nat.le_refl _)
    have HB10 := bUp HB9 bq HB9.size
    clear HB9
    clear bq
    have rg2_ := Rd.of_own og2_
    clear og2_
    go_wp2_with fail
    refine (rFracs_same Ag1_ Ag2_ C _ _ cg1_ cg2_ _ rfl rfl rg1_ rg2_ (by omega)).mono ?_
    rintro e w9 ⟨rfl, bq⟩
    replace rc := rc.below bq (Nat.le_refl _)
    replace h := h.below bq (Nat.le_refl _)
    replace rS := rS.below bq (Nat.le_refl _)
    replace bx := bx.below bq
    replace x7 := x7.below bq
    replace x8 := x8.below bq
    replace ri1 := ri1.below bq (Nat.le_refl _)
    replace rg1_ := rg1_.below bq (Nat.le_refl _)
    replace rg2_ := rg2_.below bq (Nat.le_refl _)
    have HB11 := bUp HB10 bq HB10.size
    clear HB10
    clear bq
    clear rg2_
    go_upto_region 16 with fail
    rename_i K1 hK1 K0 hK0
    replace hK1 := Lib.hid hK1
    have k0 := bx.1
    have hd3 : Below w9.heap.size w9 w9.drew := Below.drew (Below.refl _ _)
    have SK3 : Hid (∀ w', Below w9.heap.size w9 w' → w'.cell? ⟨gm, 0, none⟩ = some (.slice A1 P.length c1)) := Lib.hid fun w' HV => (HV.cell (cell_lt k0)).trans k0
    clear k0
    have hS3_0 := SK3.out _ hd3
    refine tamed_region (S := fun w' => w'.cell? ⟨gm, 0, none⟩ = some (.slice A1 P.length c1)) (fun _ => false) (by kernel_rfl) ?_
    refine tame0 (k := 0) ?_ rfl (by kernel_rfl) (by kernel_rfl) (by kernel_rfl) (fun _ _ _ h => h) (by kernel_rfl) (fun v => ?_) ?_
    rotate_left
    · (go_simp; all_goals rfl)
    simp only [Act.put, List.setIfInBounds_toArray]
    refine tame0 (k := 1) ?_ rfl (by kernel_rfl) (by kernel_rfl) (by kernel_rfl) (fun _ _ _ h => h) (by kernel_rfl) (fun v => ?_) ?_
    rotate_left
    · (go_simp; all_goals rfl)
    simp only [Act.put]
    refine tame_no (k := 2) rfl (by kernel_rfl) (by kernel_rfl) (by kernel_rfl) (fun _ _ _ h => h) (by kernel_rfl) ?_
    simp only [Act.put]
    refine tame_no (k := 3) rfl (by kernel_rfl) (by kernel_rfl) (by kernel_rfl) (fun _ _ _ h => h) (by kernel_rfl) ?_
    simp only [Act.put]
    refine tame_no (k := 4) rfl (by kernel_rfl) (by kernel_rfl) (by kernel_rfl) (fun _ _ _ h => h) (by kernel_rfl) ?_
    simp only [Act.put]
    refine tame_no (k := 5) rfl (by kernel_rfl) (by kernel_rfl) (by kernel_rfl) (fun _ _ _ h => h) (by kernel_rfl) ?_
    simp only [Act.put]
    refine tame_no (k := 6) rfl (by kernel_rfl) (by kernel_rfl) (by kernel_rfl) (fun _ _ _ h => h) (by kernel_rfl) ?_
    simp only [Act.put]
    refine tame_no (k := 7) rfl (by kernel_rfl) (by kernel_rfl) (by kernel_rfl) (fun _ _ _ h => h) (by kernel_rfl) ?_
    simp only [Act.put]
    refine tame_no (k := 8) rfl (by kernel_rfl) (by kernel_rfl) (by kernel_rfl) (fun _ _ _ h => h) (by kernel_rfl) ?_
    simp only [Act.put]
    refine tame_no (k := 9) rfl (by kernel_rfl) (by kernel_rfl) (by kernel_rfl) (fun _ _ _ h => h) (by kernel_rfl) ?_
    simp only [Act.put]
    refine tame_no (k := 10) rfl (by kernel_rfl) (by kernel_rfl) (by kernel_rfl) (fun _ _ _ h => h) (by kernel_rfl) ?_
    simp only [Act.put]
    refine tame_no (k := 11) rfl (by kernel_rfl) (by kernel_rfl) (by kernel_rfl) (fun _ _ _ h => h) (by kernel_rfl) ?_
    simp only [Act.put]
    refine tame_no (k := 12) rfl (by kernel_rfl) (by kernel_rfl) (by kernel_rfl) (fun _ _ _ h => h) (by kernel_rfl) ?_
    simp only [Act.put]
    refine tame_no (k := 13) rfl (by kernel_rfl) (by kernel_rfl) (by kernel_rfl) (fun _ _ _ h => h) (by kernel_rfl) ?_
    simp only [Act.put]
    refine tame_no (k := 14) rfl (by kernel_rfl) (by kernel_rfl) (by kernel_rfl) (fun _ _ _ h => h) (by kernel_rfl) ?_
    simp only [Act.put]
    refine tame_no (k := 15) rfl (by kernel_rfl) (by kernel_rfl) (by kernel_rfl) (fun _ _ _ h => h) (by kernel_rfl) ?_
    simp only [Act.put]
    refine tame_no (k := 16) rfl (by kernel_rfl) (by kernel_rfl) (by kernel_rfl) (fun _ _ _ h => h) (by kernel_rfl) ?_
    simp only [Act.put]
    refine tame_no (k := 17) rfl (by kernel_rfl) (by kernel_rfl) (by kernel_rfl) (fun _ _ _ h => h) (by kernel_rfl) ?_
    simp only [Act.put]
    refine tame_no (k := 18) rfl (by kernel_rfl) (by kernel_rfl) (by kernel_rfl) (fun _ _ _ h => h) (by kernel_rfl) ?_
    simp only [Act.put]
    refine tame_no (k := 19) rfl (by kernel_rfl) (by kernel_rfl) (by kernel_rfl) (fun _ _ _ h => h) (by kernel_rfl) ?_
    simp only [Act.put]
    refine tame_no (k := 20) rfl (by kernel_rfl) (by kernel_rfl) (by kernel_rfl) (fun _ _ _ h => h) (by kernel_rfl) ?_
    simp only [Act.put]
    refine tame_no (k := 21) rfl (by kernel_rfl) (by kernel_rfl) (by kernel_rfl) (fun _ _ _ h => h) (by kernel_rfl) ?_
    simp only [Act.put]
    refine tame_no (k := 22) rfl (by kernel_rfl) (by kernel_rfl) (by kernel_rfl) (fun _ _ _ h => h) (by kernel_rfl) ?_
    simp only [Act.put]
    have hS3_0v := Lib.hid hS3_0
    clear hS3_0
    refine tame_one (k := 23) (by kernel_rfl) rfl (by kernel_rfl) ?_
    go_simp
    refine ⟨by first | exact hS3_0v | exact Hid.out hS3_0v, ?_⟩
    refine tame_end (by kernel_rfl) ?_
    have hbz := Below.drew (Below.refl w9.heap.size w9)
    have HBz := bUp HB11 hbz HB11.size
    go_wp2_with fail
    refine hK1.out _ _ ?_
    exact fiLoop A1 P c1 A2 W c2 A3 F c3 gm A bs c Ai1 I ci1 Ag1_ C cg1_ lI HAT w _ (rc.below hbz (Nat.le_refl _)) hb hl HBz (h.below hbz (Nat.le_refl _)) (bx.below hbz) (ri1.below hbz (Nat.le_refl _)) (rg1_.below hbz (Nat.le_refl _)) _ _ _ _ _ _ _ _ _ _ _ _ _ _ _ _ _ _ _ _ _ _ _ _ _ _ _ _ _ _ _ _ _ _ _ _ _ _ _ _ _ _ _ _ _ _ _ _ _ _ _ _ _ _ _ _ _ _ _ _ _ _ _ _ _ _ _ _ _ _ _ _ _ _ _ _ _ _ _ _ _ _ _ _ _ _ _ _ _ _ _ _ _ _ _ _ _ _ _ _ _ _ _ _ _ _ _ _ _ _ _ _ _ _ _ _ _ _ _ _ _ _ _ _ _ _ _ _ _ _ _ _ _ _ _ _ _ _ _ _ _ _ _ _ _ _ _ _ _ _ _ _ _ _ _ _ _ _ _ _ _ _ _ _ _ _ _ _ _ _ _ _ _ _ _ _ _ _ _ _ _ _ _ _ _ _ _ _ _ _ _ _ _ _ _ _ _ _ _ _ _ _ _ _ _ _ _ _ _ _ _ _ _ _ _ _ _ _ _ _ _ _ _ _ _ _ _ _ _ _ _ _ _ _ _ _ _ _ _ _ _ _ _ _ _ _ _ _ _ _ _ _ _ _ _ _ _ _ _ _ _ _ _ _ _ _ _ _ _ _ _ _ _ _ _ _ _ _ _ _ _ _ _ _ _ _ _ _ _ _ _ _ _ _ _ _ _ _ _ _ _ _ _ _ _ _ _ _ _ _ _ _ _ _ _ _ _ _ _ _ _ _ _ _ _ _ _ _ _ _ _ _ _ _ _ _ _ _ _ _ _ _ _ _ _ _ _ _ _ _ _ _ _ _ _ _ _ _ _ _ _ _ _ _ _ _ _ _ _ _ _ _ _ _ _ _ _ _ _ _ _ _ _ _ _ _ _ _ _ _ _ _ _ _ _ _ _ _ _ _ _ _ _ _ _ _ _ _
  · obtain ⟨rfl, hI0, hlaw⟩ := HPL.out rfl
    have HL0 := Lib.hid hI0
    have HLW := Lib.hid hlaw
    clear hI0 hlaw
    go_wp2_with fail
    refine (rFracs_same Ai1 Ai2 I _ _ ci1 ci2 _ rfl rfl ri1 ri2 (by omega)).mono ?_
    rintro e w6 ⟨rfl, bq⟩
    replace rc := rc.below bq (Nat.le_refl _)
    replace h := h.below bq (Nat.le_refl _)
    replace rS := rS.below bq (Nat.le_refl _)
    replace bx := bx.below bq
    replace x7 := x7.below bq
    replace x8 := x8.below bq
    replace ri1 := ri1.below bq (Nat.le_refl _)
    replace ri2 := ri2.below bq (Nat.le_refl _)
    have HB8 := bUp HB7 bq HB7.size
    clear HB7
    clear bq
    clear ri2
    have k0 := bx.1
    have k1 := bx.2.1
    have k2 := bx.2.2.1
    go_wp2_with fail
    refine (HG1.out A1 c1 A2 c2 A3 c3 _ h).mono ?_
    rintro e w7 ⟨Ag1_, cg1_, rfl, og1_, bq⟩
    clear k0 k1 k2
    replace rc := rc.below bq (Nat.le_refl _)
    replace h := h.below bq (Nat.le_refl _)
    replace rS := rS.below bq (Nat.le_refl _)
    replace bx := bx.below bq
    replace x7 := x7.below bq
    replace x8 := x8.below bq
    replace ri1 := ri1.below bq (Nat.le_refl _)
    have HB9 := bUp HB8 bq HB8.size
    clear HB8
    clear bq
    have rg1_ := Rd.of_own og1_
    clear og1_
    have k0 := bx.1
    have k1 := bx.2.1
    have k2 := bx.2.2.1
    go_wp2_with fail
    refine (HG2.out A1 c1 A2 c2 A3 c3 _ h).mono ?_
    rintro e w8 ⟨Ag2_, cg2_, rfl, og2_, bq⟩
    clear k0 k1 k2
    replace rc := rc.below bq (Nat.le_refl _)
    replace h := h.below bq (Nat.le_refl _)
    replace rS := rS.below bq (Nat.le_refl _)
    replace bx := bx.below bq
    replace x7 := x7.below bq
    replace x8 := x8.below bq
    replace ri1 := ri1.below bq (Nat.le_refl _)
    replace rg1_ := rg1_.below bq (Nat.le_refl _)
    have HB10 := bUp HB9 bq HB9.size
    clear HB9
    clear bq
    have rg2_ := Rd.of_own og2_
    clear og2_
    go_wp2_with fail
    refine (rFracs_same Ag1_ Ag2_ C _ _ cg1_ cg2_ _ rfl rfl rg1_ rg2_ (by omega)).mono ?_
    rintro e w9 ⟨rfl, bq⟩
    replace rc := rc.below bq (Nat.le_refl _)
    replace h := h.below bq (Nat.le_refl _)
    replace rS := rS.below bq (Nat.le_refl _)
    replace bx := bx.below bq
    replace x7 := x7.below bq
    replace x8 := x8.below bq
    replace ri1 := ri1.below bq (Nat.le_refl _)
    replace rg1_ := rg1_.below bq (Nat.le_refl _)
    replace rg2_ := rg2_.below bq (Nat.le_refl _)
    have HB11 := bUp HB10 bq HB10.size
    clear HB10
    clear bq
    clear rg2_
    go_upto_region 16 with fail
    rename_i K1 hK1 K0 hK0
    replace hK1 := Lib.hid hK1
    have hI0 := HL0.out
    have hI1 : (0 : Int) < (I.length : Int) := by omega
    obtain ⟨L1, L2, L3, L4, L5⟩ := HLW.out
    have ri := ri1
    obtain ⟨ai, rfl, i0, i1⟩ := headCells ri hI0
    clear ri
    obtain ⟨ya0, ya1, ya2, ya3, ya4⟩ := id x7
    obtain ⟨yb0, yb1, yb2, yb3, yb4⟩ := id x8
    clear ya2 ya3 yb2 yb3
    generalize (nP I 0).1 = p1 at *
    generalize (nP I 0).2 = p2 at *
    have hd4 : Below w9.heap.size w9 w9.drew := Below.drew (Below.refl _ _)
    have SK4 : Hid (∀ w', Below w9.heap.size w9 w' → w'.cell? ⟨g7, 0, none⟩ = some (.int .i64 f1) ∧ w'.cell? ⟨g7, 1, none⟩ = some (.int .i64 f2) ∧ w'.cell? ⟨g7 + 1, 0, none⟩ = some (.int .i64 g1) ∧ w'.cell? ⟨g7 + 1, 1, none⟩ = some (.int .i64 g2) ∧ w'.cell? ai = some (.int .i64 p1) ∧ w'.cell? ⟨ai.block, ai.off + 1, none⟩ = some (.int .i64 p2)) := Lib.hid fun w' HV => ⟨(HV.cell (p := ⟨g7, 0, none⟩) ya4).trans ya0, (HV.cell (p := ⟨g7, 1, none⟩) ya4).trans ya1, (HV.cell (p := ⟨g7 + 1, 0, none⟩) yb4).trans yb0, (HV.cell (p := ⟨g7 + 1, 1, none⟩) yb4).trans yb1, (HV.cell (cell_lt i0)).trans i0, (HV.cell (cell_lt i1)).trans i1⟩
    clear ya0 ya1 yb0 yb1 i0 i1
    have hS4_0 := SK4.out _ hd4
    refine tamed_region (S := fun w' => w'.cell? ⟨g7, 0, none⟩ = some (.int .i64 f1) ∧ w'.cell? ⟨g7, 1, none⟩ = some (.int .i64 f2) ∧ w'.cell? ⟨g7 + 1, 0, none⟩ = some (.int .i64 g1) ∧ w'.cell? ⟨g7 + 1, 1, none⟩ = some (.int .i64 g2) ∧ w'.cell? ai = some (.int .i64 p1) ∧ w'.cell? ⟨ai.block, ai.off + 1, none⟩ = some (.int .i64 p2)) (fun _ => false) (by kernel_rfl) ?_
    refine tame0 (k := 0) ?_ rfl (by kernel_rfl) (by kernel_rfl) (by kernel_rfl) (fun _ _ _ h => h) (by kernel_rfl) (fun v => ?_) ?_
    rotate_left
    · (go_simp; all_goals rfl)
    simp only [Act.put, List.setIfInBounds_toArray]
    refine tame0 (k := 1) ?_ rfl (by kernel_rfl) (by kernel_rfl) (by kernel_rfl) (fun _ _ _ h => h) (by kernel_rfl) (fun v => ?_) ?_
    rotate_left
    · (go_simp; all_goals rfl)
    simp only [Act.put]
    refine tame0 (k := 2) ?_ rfl (by kernel_rfl) (by kernel_rfl) (by kernel_rfl) (fun _ _ _ h => h) (by kernel_rfl) (fun v => ?_) ?_
    rotate_left
    · (go_simp; all_goals rfl)
    simp only [Act.put]
    refine tame (k := 3) ?_ rfl (by kernel_rfl) (by kernel_rfl) (by kernel_rfl) (by kernel_rfl) (fun _ _ _ h => h) (by kernel_rfl) hS4_0 (fun v hv => ?_) ?_
    rotate_left
    · (obtain ⟨k1, k2, k3, k4, k5, k6⟩ := hv; go_simp; all_goals rfl)
    simp only [Act.put]
    refine tame0 (k := 4) ?_ rfl (by kernel_rfl) (by kernel_rfl) (by kernel_rfl) (fun _ _ _ h => h) (by kernel_rfl) (fun v => ?_) ?_
    rotate_left
    · (go_simp; all_goals rfl)
    simp only [Act.put]
    refine tame0 (k := 5) ?_ rfl (by kernel_rfl) (by kernel_rfl) (by kernel_rfl) (fun _ _ _ h => h) (by kernel_rfl) (fun v => ?_) ?_
    rotate_left
    · (go_simp; all_goals rfl)
    simp only [Act.put]
    refine tame0 (k := 6) ?_ rfl (by kernel_rfl) (by kernel_rfl) (by kernel_rfl) (fun _ _ _ h => h) (by kernel_rfl) (fun v => ?_) ?_
    rotate_left
    · (go_simp; all_goals rfl)
    simp only [Act.put]
    refine tame (k := 7) ?_ rfl (by kernel_rfl) (by kernel_rfl) (by kernel_rfl) (by kernel_rfl) (fun _ _ _ h => h) (by kernel_rfl) hS4_0 (fun v hv => ?_) ?_
    rotate_left
    · (obtain ⟨k1, k2, k3, k4, k5, k6⟩ := hv; go_simp; all_goals rfl)
    simp only [Act.put]
    refine tame0 (k := 8) ?_ rfl (by kernel_rfl) (by kernel_rfl) (by kernel_rfl) (fun _ _ _ h => h) (by kernel_rfl) (fun v => ?_) ?_
    rotate_left
    · (go_simp; all_goals rfl)
    simp only [Act.put]
    refine tame0 (k := 9) ?_ rfl (by kernel_rfl) (by kernel_rfl) (by kernel_rfl) (fun _ _ _ h => h) (by kernel_rfl) (fun v => ?_) ?_
    rotate_left
    · (go_simp; all_goals rfl)
    simp only [Act.put]
    refine tame (k := 10) ?_ rfl (by kernel_rfl) (by kernel_rfl) (by kernel_rfl) (by kernel_rfl) (fun _ _ _ h => h) (by kernel_rfl) hS4_0 (fun v hv => ?_) ?_
    rotate_left
    · (obtain ⟨k1, k2, k3, k4, k5, k6⟩ := hv; go_simp; all_goals rfl)
    simp only [Act.put]
    refine tame0 (k := 11) ?_ rfl (by kernel_rfl) (by kernel_rfl) (by kernel_rfl) (fun _ _ _ h => h) (by kernel_rfl) (fun v => ?_) ?_
    rotate_left
    · (go_simp; all_goals rfl)
    simp only [Act.put]
    refine tame0 (k := 12) ?_ rfl (by kernel_rfl) (by kernel_rfl) (by kernel_rfl) (fun _ _ _ h => h) (by kernel_rfl) (fun v => ?_) ?_
    rotate_left
    · (go_simp; all_goals rfl)
    simp only [Act.put]
    refine tame0 (k := 13) ?_ rfl (by kernel_rfl) (by kernel_rfl) (by kernel_rfl) (fun _ _ _ h => h) (by kernel_rfl) (fun v => ?_) ?_
    rotate_left
    · (go_simp; all_goals rfl)
    simp only [Act.put]
    refine tame0 (k := 14) ?_ rfl (by kernel_rfl) (by kernel_rfl) (by kernel_rfl) (fun _ _ _ h => h) (by kernel_rfl) (fun v => ?_) ?_
    rotate_left
    · (go_simp; all_goals rfl)
    simp only [Act.put]
    refine tame (k := 15) ?_ rfl (by kernel_rfl) (by kernel_rfl) (by kernel_rfl) (by kernel_rfl) (fun _ _ _ h => h) (by kernel_rfl) hS4_0 (fun v hv => ?_) ?_
    rotate_left
    · (obtain ⟨k1, k2, k3, k4, k5, k6⟩ := hv; go_simp; all_goals rfl)
    simp only [Act.put]
    refine tame0 (k := 16) ?_ rfl (by kernel_rfl) (by kernel_rfl) (by kernel_rfl) (fun _ _ _ h => h) (by kernel_rfl) (fun v => ?_) ?_
    rotate_left
    · (go_simp; all_goals rfl)
    simp only [Act.put]
    refine tame (k := 17) ?_ rfl (by kernel_rfl) (by kernel_rfl) (by kernel_rfl) (by kernel_rfl) (fun _ _ _ h => h) (by kernel_rfl) hS4_0 (fun v hv => ?_) ?_
    rotate_left
    · (obtain ⟨k1, k2, k3, k4, k5, k6⟩ := hv; go_simp; all_goals rfl)
    simp only [Act.put]
    refine tame0 (k := 18) ?_ rfl (by kernel_rfl) (by kernel_rfl) (by kernel_rfl) (fun _ _ _ h => h) (by kernel_rfl) (fun v => ?_) ?_
    rotate_left
    · (go_simp; all_goals rfl)
    simp only [Act.put]
    refine tame0 (k := 19) ?_ rfl (by kernel_rfl) (by kernel_rfl) (by kernel_rfl) (fun _ _ _ h => h) (by kernel_rfl) (fun v => ?_) ?_
    rotate_left
    · (go_simp; all_goals rfl)
    simp only [Act.put]
    refine tame (k := 20) ?_ rfl (by kernel_rfl) (by kernel_rfl) (by kernel_rfl) (by kernel_rfl) (fun _ _ _ h => h) (by kernel_rfl) hS4_0 (fun v hv => ?_) ?_
    rotate_left
    · (obtain ⟨k1, k2, k3, k4, k5, k6⟩ := hv; go_simp; all_goals rfl)
    simp only [Act.put]
    refine tame0 (k := 21) ?_ rfl (by kernel_rfl) (by kernel_rfl) (by kernel_rfl) (fun _ _ _ h => h) (by kernel_rfl) (fun v => ?_) ?_
    rotate_left
    · (go_simp; all_goals rfl)
    simp only [Act.put]
    refine tame0 (k := 22) ?_ rfl (by kernel_rfl) (by kernel_rfl) (by kernel_rfl) (fun _ _ _ h => h) (by kernel_rfl) (fun v => ?_) ?_
    rotate_left
    · (go_simp; all_goals rfl)
    simp only [Act.put]
    have hS4_0v := Lib.hid hS4_0
    clear hS4_0
    refine tame_one (k := 23) (by kernel_rfl) rfl (by kernel_rfl) ?_
    go_simp
    refine ⟨by first | exact hS4_0v | exact Hid.out hS4_0v, ?_⟩
    refine tame_end (by kernel_rfl) ?_
    have hbz := Below.drew (Below.refl w9.heap.size w9)
    have HBz := bUp HB11 hbz HB11.size
    go_wp2_with fail
    refine hK1.out _ _ ?_
    exact fiLoop A1 P c1 A2 W c2 A3 F c3 gm A bs c _ I ci1 Ag1_ C cg1_ lI HAT w _ (rc.below hbz (Nat.le_refl _)) hb hl HBz (h.below hbz (Nat.le_refl _)) (bx.below hbz) (ri1.below hbz (Nat.le_refl _)) (rg1_.below hbz (Nat.le_refl _)) _ _ _ _ _ _ _ _ _ _ _ _ _ _ _ _ _ _ _ _ _ _ _ _ _ _ _ _ _ _ _ _ _ _ _ _ _ _ _ _ _ _ _ _ _ _ _ _ _ _ _ _ _ _ _ _ _ _ _ _ _ _ _ _ _ _ _ _ _ _ _ _ _ _ _ _ _ _ _ _ _ _ _ _ _ _ _ _ _ _ _ _ _ _ _ _ _ _ _ _ _ _ _ _ _ _ _ _ _ _ _ _ _ _ _ _ _ _ _ _ _ _ _ _ _ _ _ _ _ _ _ _ _ _ _ _ _ _ _ _ _ _ _ _ _ _ _ _ _ _ _ _ _ _ _ _ _ _ _ _ _ _ _ _ _ _ _ _ _ _ _ _ _ _ _ _ _ _ _ _ _ _ _ _ _ _ _ _ _ _ _ _ _ _ _ _ _ _ _ _ _ _ _ _ _ _ _ _ _ _ _ _ _ _ _ _ _ _ _ _ _ _ _ _ _ _ _ _ _ _ _ _ _ _ _ _ _ _ _ _ _ _ _ _ _ _ _ _ _ _ _ _ _ _ _ _ _ _ _ _ _ _ _ _ _ _ _ _ _ _ _ _ _ _ _ _ _ _ _ _ _ _ _ _ _ _ _ _ _ _ _ _ _ _ _ _ _ _ _ _ _ _ _ _ _ _ _ _ _ _ _ _ _ _ _ _ _ _ _ _ _ _ _ _ _ _ _ _ _ _ _ _ _ _ _ _ _ _ _ _ _ _ _ _ _ _ _ _ _ _ _ _ _ _ _ _ _ _ _ _ _ _ _ _ _ _ _ _ _ _ _ _ _ _ _ _ _ _ _ _ _ _ _ _ _ _ _ _ _ _ _ _ _ _ _ _ _ _ _ _ _ _ _ _ _ _ _ _

end Go.Proofs.Ytfobjkdkjlbkfaa
