/- Playing in a set: gain and time, plainly. No program stands here. -/
import Derived.Test.YtdhagkckkdaenaaSetL
import Derived.Test.YtdhagkckkdaenaaPrL
namespace Go.Proofs.Ytdhagkckkdaenaa

theorem ArmOk.sum180 {P W F : List Int} (h : ArmOk P W F) (i : Nat) : 0 ≤ nth (gath P W) i ∧ nth (gath P W) i ≤ 180 := by
  have h1 := gath_ok h.tree.par h.tree.len (fun i => (h.tree.w0 i).1) (by have := h.tree.len; have := h.tree.n1; omega) i
  have h2 : sm W ≤ 20 * (W.length : Int) := sm_le fun i => (h.tree.w0 i).2
  have := h.tree.len
  have := h.n9
  omega
theorem pw_mix {a b : Int} (h1 : 1 ≤ a) (hab : a < b) (h4 : b ≤ 4) {d : Nat} (hd : d ≤ 4) : 0 ≤ pw a d * pw b (4 - d) ∧ pw a d * pw b (4 - d) ≤ 256 := by
  obtain rfl | rfl | rfl : a = 1 ∨ a = 2 ∨ a = 3 := by omega
  all_goals obtain rfl | rfl | rfl : b = 2 ∨ b = 3 ∨ b = 4 := by omega
  all_goals obtain rfl | rfl | rfl | rfl | rfl : d = 0 ∨ d = 1 ∨ d = 2 ∨ d = 3 ∨ d = 4 := by omega
  all_goals decide
/-- A node's part in the time of playing from x on, as the program scales it. -/
def wtP (P W : List Int) (a b : Int) (x y : Nat) : Int := nth (gath P W) y * pw a (dpN P y - dpN P x) * pw b (4 - (dpN P y - dpN P x))
theorem dpN_four {P W F : List Int} (h : ArmOk P W F) {x : Nat} (hx : x < P.length) : dpN P x ≤ 4 := by
  have := h.depth hx
  unfold dpN
  omega
theorem wtP_bd {P W F : List Int} (h : ArmOk P W F) {a b : Int} (h1 : 1 ≤ a) (hab : a < b) (h4 : b ≤ 4) {x y : Nat} (hy : y < P.length) : 0 ≤ wtP P W a b x y ∧ wtP P W a b x y ≤ 46080 := by
  have hm := pw_mix h1 hab h4 (d := dpN P y - dpN P x) (by have := dpN_four h hy; omega)
  have hs := h.sum180 y
  rw [wtP, Int.mul_assoc]
  exact mul_bd _ _ 180 256 hs.1 hs.2 hm.1 hm.2
def gnT (P W F : List Int) (a b : Int) (x : Nat) (s : List Int) (k : Nat) : Int := ((s.take k).map fun y => wtP P W a b x y.toNat * nth F y.toNat).sum
def tmT (P W : List Int) (a b : Int) (x : Nat) (s : List Int) (k : Nat) : Int := ((s.take k).map fun y => wtP P W a b x y.toNat).sum
theorem gnT_zero (P W F : List Int) (a b : Int) (x : Nat) (s : List Int) : gnT P W F a b x s 0 = 0 := by simp [gnT]
theorem tmT_zero (P W : List Int) (a b : Int) (x : Nat) (s : List Int) : tmT P W a b x s 0 = 0 := by simp [tmT]
theorem gnT_succ {P W F : List Int} {a b : Int} {x : Nat} {s : List Int} {k : Nat} (hk : k < s.length) : gnT P W F a b x s (k + 1) = gnT P W F a b x s k + wtP P W a b x (nth s k).toNat * nth F (nth s k).toNat := by
  unfold gnT
  rw [List.take_succ_eq_append_getElem hk, List.map_append, List.sum_append, ← nth_eq hk]
  simp
theorem tmT_succ {P W : List Int} {a b : Int} {x : Nat} {s : List Int} {k : Nat} (hk : k < s.length) : tmT P W a b x s (k + 1) = tmT P W a b x s k + wtP P W a b x (nth s k).toNat := by
  unfold tmT
  rw [List.take_succ_eq_append_getElem hk, List.map_append, List.sum_append, ← nth_eq hk]
  simp
theorem ArmOk.fb {P W F : List Int} (h : ArmOk P W F) (x : Nat) : -99 ≤ nth F x ∧ nth F x ≤ 99 := by
  rcases Nat.lt_or_ge x F.length with hx | hx
  · exact allB_nth h.fees hx
  · rw [nth_big hx]; omega
theorem wtF_bd {P W F : List Int} (h : ArmOk P W F) {a b : Int} (h1 : 1 ≤ a) (hab : a < b) (h4 : b ≤ 4) {x y : Nat} (hy : y < P.length) : -4561920 ≤ wtP P W a b x y * nth F y ∧ wtP P W a b x y * nth F y ≤ 4561920 := by
  have := mulAbs (A := 99) (B := 46080) (h.fb y) (wtP_bd h h1 hab h4 (x := x) hy) (by decide)
  rw [Int.mul_comm]
  omega
section
variable {P W F : List Int} {a b : Int} {x : Nat} {s : List Int}
theorem gnT_bd (h : ArmOk P W F) (h1 : 1 ≤ a) (hab : a < b) (h4 : b ≤ 4) (hm : ∀ k, k < s.length → (nth s k).toNat < P.length) : ∀ k, k ≤ s.length → -(4561920 * (k : Int)) ≤ gnT P W F a b x s k ∧ gnT P W F a b x s k ≤ 4561920 * (k : Int)
  | 0, _ => by rw [gnT_zero]; omega
  | k + 1, hk => by
    have ih := gnT_bd h h1 hab h4 hm k (by omega)
    have := wtF_bd h h1 hab h4 (x := x) (hm k (by omega))
    rw [gnT_succ (by omega)]
    omega
theorem tmT_bd (h : ArmOk P W F) (h1 : 1 ≤ a) (hab : a < b) (h4 : b ≤ 4) (hm : ∀ k, k < s.length → (nth s k).toNat < P.length) : ∀ k, k ≤ s.length → 0 ≤ tmT P W a b x s k ∧ tmT P W a b x s k ≤ 46080 * (k : Int)
  | 0, _ => by rw [tmT_zero]; omega
  | k + 1, hk => by
    have ih := tmT_bd h h1 hab h4 hm k (by omega)
    have := wtP_bd h h1 hab h4 (x := x) (hm k (by omega))
    rw [tmT_succ (by omega)]
    omega
end
/-- All gain and all time of a set. -/
def gnA (P W F : List Int) (a b : Int) (x : Nat) (s : List Int) : Int := gnT P W F a b x s s.length
def tmA (P W : List Int) (a b : Int) (x : Nat) (s : List Int) : Int := tmT P W a b x s s.length
theorem gnA_rL {P W F : List Int} {a b : Int} {x : Nat} (i : Nat → Bool) : gnA P W F a b x (rL P i x P.length) = sN (fun y => if rch P i x y = true then wtP P W a b x y * nth F y else 0) P.length := by
  unfold gnA gnT
  rw [List.take_length]
  exact sum_rL P i x (fun y => wtP P W a b x y * nth F y) P.length
theorem tmA_rL {P W : List Int} {a b : Int} {x : Nat} (i : Nat → Bool) : tmA P W a b x (rL P i x P.length) = sN (fun y => if rch P i x y = true then wtP P W a b x y else 0) P.length := by
  unfold tmA tmT
  rw [List.take_length]
  exact sum_rL P i x (fun y => wtP P W a b x y) P.length
theorem pw_add (b : Int) (m n : Nat) : pw b (m + n) = pw b m * pw b n := by
  induction n with
  | zero => show pw b m = pw b m * 1; omega
  | succ n ih => rw [show m + (n + 1) = (m + n) + 1 by omega, pw_succ, pw_succ, ih, Int.mul_assoc]
theorem pw_pos1 {b : Int} (hb : 1 ≤ b) (k : Nat) : 1 ≤ pw b k := by
  induction k with
  | zero => exact Int.le_refl _
  | succ k ih =>
    have := Int.mul_le_mul ih hb (by decide) (by omega)
    rw [pw_succ]
    omega
/-- The height. -/
def hN (P : List Int) : Nat := (hgt P).toNat
theorem unitX_eq {P W F : List Int} (h : ArmOk P W F) {b : Int} {y : Nat} (hy : y < P.length) : unitX P W b y = nth (gath P W) y * pw b (hN P - dpN P y) := by
  have := hgt_dep h hy
  have := dep_bd P y
  unfold unitX hN dpN
  rw [show (hgt P - nth (dep P) y).toNat = (hgt P).toNat - (nth (dep P) y).toNat by omega]
theorem dpN_le {P W F : List Int} (h : ArmOk P W F) {y : Nat} (hy : y < P.length) : dpN P y ≤ hN P ∧ hN P ≤ 4 := by
  have := hgt_dep h hy
  have := dep_bd P y
  have := h.h4
  unfold hN dpN
  omega
/-- How the program's scale and the reference's differ. -/
def kP (P : List Int) (b : Int) (x : Nat) : Int := pw b (4 - hN P + dpN P x)
theorem wtP_eq {P W F : List Int} (h : ArmOk P W F) {a b : Int} {x y : Nat} (hx : x < P.length) (hy : y < P.length) (hd : dpN P x ≤ dpN P y) :
    wtP P W a b x y = kP P b x * (pw a (dpN P y - dpN P x) * unitX P W b y) := by
  have h1 := dpN_le h hy
  have h2 := dpN_le h hx
  rw [unitX_eq h hy, wtP, kP, show 4 - (dpN P y - dpN P x) = (4 - hN P + dpN P x) + (hN P - dpN P y) by omega, pw_add]
  grind
/-- What a set's gain and time come to, as the reference scales them. -/
def gnR (P W F : List Int) (a b : Int) (i : Nat → Bool) (x : Nat) : Int := tot P a i (fun y => nth F y * unitX P W b y) x
def tmR (P W : List Int) (a b : Int) (i : Nat → Bool) (x : Nat) : Int := tot P a i (fun y => unitX P W b y) x
theorem gnA_eq {P W F : List Int} (h : ArmOk P W F) {a b : Int} {x : Nat} (hx : x < P.length) (i : Nat → Bool) : gnA P W F a b x (rL P i x P.length) = kP P b x * gnR P W F a b i x := by
  rw [gnA_rL, gnR, tot, ← sN_mul]
  refine sN_congr fun y hy => ?_
  by_cases hr : rch P i x y = true
  · rw [if_pos hr, if_pos hr, wtP_eq h hx hy (rch_dep h.tree.par hy hr)]
    grind
  · rw [if_neg hr, if_neg hr, Int.mul_zero]
theorem tmA_eq {P W F : List Int} (h : ArmOk P W F) {a b : Int} {x : Nat} (hx : x < P.length) (i : Nat → Bool) : tmA P W a b x (rL P i x P.length) = kP P b x * tmR P W a b i x := by
  rw [tmA_rL, tmR, tot, ← sN_mul]
  refine sN_congr fun y hy => ?_
  by_cases hr : rch P i x y = true
  · rw [if_pos hr, if_pos hr, wtP_eq h hx hy (rch_dep h.tree.par hy hr)]
  · rw [if_neg hr, if_neg hr, Int.mul_zero]
theorem gat_up {P xs : List Int} (hp : ParOk P) (hl : xs.length = P.length) (hn : ∀ i, 0 ≤ nth xs i) (i m : Nat) : ∀ k, m + k < xs.length → nth (gat P xs m) i ≤ nth (gat P xs (m + k)) i
  | 0, _ => Int.le_refl _
  | k + 1, h => by
    have ih := gat_up hp hl hn i m k (by omega)
    have hnn := (gat_ok hp hl hn (m + k) (by omega)).1
    rw [show m + (k + 1) = (m + k) + 1 by omega, gat]
    generalize (nth P (xs.length - 1 - (m + k))).toNat = p
    by_cases hi : p = i
    · subst hi
      rcases Nat.lt_or_ge p (gat P xs (m + k)).length with hp' | hp'
      · rw [nth_set_self hp']
        have := (hnn (xs.length - 1 - (m + k))).1
        omega
      · rw [List.set_eq_of_length_le hp']
        exact ih
    · rw [nth_set_ne hi]
      exact ih
/-- Every node's sum is greater than 0. -/
theorem gath_pos {P W : List Int} (h : TreeOk P W) {x : Nat} (hx : x < P.length) : 1 ≤ nth (gath P W) x := by
  have hl := h.len
  have hn := fun i => (h.w0 i).1
  have key : ∀ m, m < W.length → ∀ y, W.length - 1 - m ≤ y → y < P.length → 1 ≤ nth (gat P W m) y := by
    intro m
    induction m using Nat.strongRecOn with
    | _ m ih =>
      intro hm y hy hyl
      cases he : endB P y
      · have hk : kids P (y : Int) ≠ [] := fun h' => by rw [(kids_nil y).1 h'] at he; cases he
        obtain ⟨z, hz⟩ := List.exists_mem_of_ne_nil _ hk
        obtain ⟨j, hj, hpj, rfl⟩ := mem_kidTo.1 hz
        have hlt := (dpN_kid h.par hj hpj).1
        have h1 := ih (W.length - 1 - j) (by omega) (by omega) j (by omega) hj
        have h2 := (gat_ok h.par hl hn (W.length - 1 - j) (by omega)).1 y
        have h3 : nth (gat P W (W.length - 1 - j + 1)) y = nth (gat P W (W.length - 1 - j)) y + nth (gat P W (W.length - 1 - j)) j := by
          rw [gat, show W.length - 1 - (W.length - 1 - j) = j by omega, hpj, Int.toNat_natCast, nth_set_self (by rw [gat_length]; omega)]
        have h4 := gat_up h.par hl hn y (W.length - 1 - j + 1) (m - (W.length - 1 - j + 1)) (by omega)
        rw [show W.length - 1 - j + 1 + (m - (W.length - 1 - j + 1)) = m by omega] at h4
        omega
      · have h1 := h.wt y hyl
        rw [if_pos he] at h1
        have h2 := gat_up h.par hl hn y 0 m (by omega)
        rw [Nat.zero_add] at h2
        have e : gat P W 0 = W := rfl
        rw [e] at h2
        omega
  exact key _ (by omega) x (by omega) hx
theorem unitX_pos {P W F : List Int} (h : ArmOk P W F) {b : Int} (hb : 1 ≤ b) {y : Nat} (hy : y < P.length) : 1 ≤ unitX P W b y := by
  have h1 := gath_pos h.tree hy
  have h2 := pw_pos1 hb (hN P - dpN P y)
  rw [unitX_eq h hy]
  have := Int.mul_le_mul h1 h2 (by decide) (by omega)
  omega
theorem sN_nn {f : Nat → Int} {n : Nat} (h : ∀ i, i < n → 0 ≤ f i) : 0 ≤ sN f n := by
  have := sN_le (f := fun _ => 0) (g := f) (n := n) h
  rw [sN_zero fun _ _ => rfl] at this
  exact this
theorem sN_ge {f : Nat → Int} {k : Nat} : ∀ {n}, k < n → (∀ i, i < n → 0 ≤ f i) → f k ≤ sN f n
  | 0, h, _ => by omega
  | n + 1, h, h0 => by
    rw [sN]
    rcases Nat.eq_or_lt_of_le (Nat.lt_succ_iff.1 h) with rfl | h'
    · have := sN_nn (n := k) fun i hi => h0 i (by omega); omega
    · have := sN_ge h' fun i hi => h0 i (by omega)
      have := h0 n (by omega)
      omega
theorem tmR_pos {P W F : List Int} (h : ArmOk P W F) {a b : Int} (ha : 1 ≤ a) (hb : 1 ≤ b) {x : Nat} (hx : x < P.length) (i : Nat → Bool) : 1 ≤ tmR P W a b i x := by
  have h1 := unitX_pos h hb hx
  have key : (if rch P i x x = true then pw a (dpN P x - dpN P x) * unitX P W b x else 0) ≤ tmR P W a b i x := sN_ge (f := fun y => if rch P i x y = true then pw a (dpN P y - dpN P x) * unitX P W b y else 0) hx fun y hy => by
    show 0 ≤ ite _ _ _
    split
    · exact Int.mul_nonneg (pw_pos (by omega) _) (by have := unitX_pos h hb hy; omega)
    · exact Int.le_refl _
  have e : pw a 0 = 1 := rfl
  rw [if_pos rch_self, Nat.sub_self, e, Int.one_mul] at key
  exact Int.le_trans h1 key
theorem kP_pos {P : List Int} {b : Int} (hb : 1 ≤ b) (x : Nat) : 1 ≤ kP P b x := pw_pos1 hb _
end Go.Proofs.Ytdhagkckkdaenaa
