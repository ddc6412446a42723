/- Boxes opened in any order, plainly: the greatest mean times the scale; sets of boxes by their numbers. No program stands here. -/
import Derived.Test.YtjnllbmknblecaaBxsA
import Derived.Test.YtjnllbmknblecaaGaL
namespace Go.Proofs.Ytjnllbmknblecaa

def scK (L : List Bxd) : Nat → Int
  | 0 => 1
  | k + 1 => scK L k * sm (bAt L k).w
def scB (L : List Bxd) : Int := scK L L.length
/-- A box is opened: the first k values. -/
def oS (V : Nat → Int) (b : Bxd) (S : Int) (s : Nat) : Nat → Int
  | 0 => -b.fee * S
  | v + 1 => oS V b S s v + nth b.w v * V (max s v)
/-- The best of stopping and of opening one of the first i boxes. -/
def mS (V : Nat → Nat → Int) (L : List Bxd) (s : Nat) : Nat → Int
  | 0 => s * scB L
  | i + 1 => mxI (mS V L s i) (oS (V i) (bAt L i) (scB L) s (bAt L i).w.length)
def bV : Nat → List Bxd → Nat → Int
  | 0, L, s => s * scB L
  | n + 1, L, s => mS (fun i => bV n (L.eraseIdx i)) L s L.length
def bval (L : List Bxd) (s : Nat) : Int := bV L.length L s
def BxOk (L : List Bxd) : Prop := L.length ≤ 4 ∧ ∀ k, k < L.length → lawB (bAt L k).w = true ∧ 0 ≤ (bAt L k).fee ∧ (bAt L k).fee ≤ 20
section
variable {L : List Bxd}
theorem bxsB_iff : bxsB L = true ↔ BxOk L := by
  constructor
  · intro h
    obtain ⟨h1, h2⟩ := bxsB_yes h
    refine ⟨h1, fun k hk => ?_⟩
    have := h2 k hk
    unfold boxB at this
    simp only [Bool.and_eq_true, inB_iff] at this
    exact ⟨this.1, this.2.1, this.2.2⟩
  · intro h
    unfold bxsB
    simp only [Bool.and_eq_true, List.all_eq_true, decide_eq_true_eq]
    refine ⟨h.1, fun b hb => ?_⟩
    obtain ⟨k, hk, rfl⟩ := List.mem_iff_getElem.1 hb
    have := h.2 k hk
    rw [bAt_get hk] at this
    unfold boxB
    simp only [Bool.and_eq_true, inB_iff]
    exact ⟨this.1, this.2.1, this.2.2⟩
theorem mS_congr {V W : Nat → Nat → Int} {s : Nat} : ∀ i, (∀ j, j < i → V j = W j) → mS V L s i = mS W L s i
  | 0, _ => rfl
  | i + 1, h => by rw [mS, mS, mS_congr i (fun j hj => h j (by omega)), h i (by omega)]
theorem bval_eq (s : Nat) : bval L s = mS (fun i => bval (L.eraseIdx i)) L s L.length := by
  unfold bval
  cases hl : L.length with
  | zero => rfl
  | succ n =>
    rw [bV, hl]
    exact mS_congr _ fun j hj => by
      rw [List.length_eraseIdx, if_pos (by omega), hl]
      rfl
theorem bAt_cons (b : Bxd) (k : Nat) : bAt (b :: L) (k + 1) = bAt L k := by simp [bAt]
theorem scK_cons (b : Bxd) : ∀ k, scK (b :: L) (k + 1) = sm b.w * scK L k
  | 0 => by rw [scK, scK, scK, Int.one_mul, Int.mul_one]; rfl
  | k + 1 => by rw [scK, scK_cons b k, bAt_cons, scK, Int.mul_assoc]
theorem scB_cons (b : Bxd) : scB (b :: L) = sm b.w * scB L := scK_cons b L.length
theorem scB_erase : ∀ {L : List Bxd} {i : Nat}, i < L.length → scB L = scB (L.eraseIdx i) * sm (bAt L i).w := by
  intro L
  induction L with
  | nil => intro i h; simp at h
  | cons b L ih =>
    intro i h
    cases i with
    | zero => rw [scB_cons, List.eraseIdx_cons_zero, Int.mul_comm]; rfl
    | succ i =>
      rw [scB_cons, List.eraseIdx_cons_succ, scB_cons, ih (by simpa using h), bAt_cons, Int.mul_assoc]
theorem BxOk.erase (h : BxOk L) {i : Nat} (hi : i < L.length) : BxOk (L.eraseIdx i) := by
  have hl : (L.eraseIdx i).length = L.length - 1 := by rw [List.length_eraseIdx, if_pos hi]
  refine ⟨by have := h.1; omega, fun k hk => ?_⟩
  have hk' : k < L.length - 1 := by omega
  rcases Nat.lt_or_ge k i with h1 | h1
  · have e : bAt (L.eraseIdx i) k = bAt L k := by simp [bAt, List.getD, List.getElem?_eraseIdx, h1]
    rw [e]
    exact h.2 k (by omega)
  · have e : bAt (L.eraseIdx i) k = bAt L (k + 1) := by simp [bAt, List.getD, List.getElem?_eraseIdx, Nat.not_lt.2 h1]
    rw [e]
    exact h.2 (k + 1) (by omega)
theorem pow25 : ∀ n, n ≤ 4 → (1 : Int) ≤ 25 ^ n ∧ (25 : Int) ^ n ≤ 390625
  | 0, _ => by decide
  | 1, _ => by decide
  | 2, _ => by decide
  | 3, _ => by decide
  | 4, _ => by decide
theorem scK_bd (h : BxOk L) : ∀ k, k ≤ L.length → 1 ≤ scK L k ∧ scK L k ≤ 25 ^ k
  | 0, _ => by unfold scK; decide
  | k + 1, hk => by
    have ih := scK_bd h k (by omega)
    obtain ⟨h1, h2, h3, h4, h5⟩ := lawB_yes (h.2 k (by omega)).1
    have p := pow25 k (by have := h.1; omega)
    rw [scK]
    have m := mul_bd (scK L k) (sm (bAt L k).w) (25 ^ k) 25 (by omega) (by omega) (by omega) (by omega)
    have m1 : 1 * 1 ≤ scK L k * sm (bAt L k).w := Int.mul_le_mul (by omega) (by omega) (by omega) (by omega)
    rw [Int.pow_succ]
    omega
theorem scB_bd (h : BxOk L) : 1 ≤ scB L ∧ scB L ≤ 390625 := by
  have h1 := scK_bd h L.length (Nat.le_refl _)
  have h2 := pow25 L.length h.1
  unfold scB
  omega
theorem bd_term {V : Nat → Int} {b : Bxd} {S' : Int} {s v : Nat} (hb : lawB b.w = true) (_hS : 0 ≤ S') (hV : ∀ s', s' ≤ 4 → 0 ≤ V s' ∧ V s' ≤ 4 * S') (hs : s ≤ 4) (hv : v < b.w.length) :
    0 ≤ nth b.w v ∧ nth b.w v ≤ 5 ∧ 0 ≤ V (max s v) ∧ V (max s v) ≤ 4 * S' ∧ 0 ≤ nth b.w v * V (max s v) ∧ nth b.w v * V (max s v) ≤ nth b.w v * (4 * S') := by
  obtain ⟨h1, h2, h3, h4, h5⟩ := lawB_yes hb
  have w := allB_nth h3 hv
  have q := hV (max s v) (by omega)
  exact ⟨w.1, w.2, q.1, q.2, Int.mul_nonneg w.1 q.1, Int.mul_le_mul_of_nonneg_left q.2 w.1⟩
/-- The values of opening, summed. -/
def gS2 (V : Nat → Int) (w : List Int) (s : Nat) : Nat → Int
  | 0 => 0
  | v + 1 => gS2 V w s v + nth w v * V (max s v)
theorem oS_eq (V : Nat → Int) (b : Bxd) (S : Int) (s : Nat) : ∀ v, oS V b S s v = -b.fee * S + gS2 V b.w s v
  | 0 => by rw [oS, gS2, Int.add_zero]
  | v + 1 => by rw [oS, gS2, oS_eq V b S s v, Int.add_assoc]
theorem gS2_bd {V : Nat → Int} {b : Bxd} {S' : Int} {s : Nat} (hb : lawB b.w = true) (hS : 0 ≤ S') (hV : ∀ s', s' ≤ 4 → 0 ≤ V s' ∧ V s' ≤ 4 * S') (hs : s ≤ 4) : ∀ v, v ≤ b.w.length → 0 ≤ gS2 V b.w s v ∧ gS2 V b.w s v ≤ sm (b.w.take v) * (4 * S')
  | 0, _ => by rw [gS2]; simp [sm]
  | v + 1, hv => by
    have ih := gS2_bd hb hS hV hs v (by omega)
    have q := bd_term hb hS hV hs (v := v) (by omega)
    rw [gS2, sm_succ _ _ (by omega), Int.add_mul]
    omega
theorem smt_le {w : List Int} (hb : lawB w = true) (v : Nat) : 0 ≤ sm (w.take v) ∧ sm (w.take v) ≤ sm w := by
  obtain ⟨h1, h2, h3, h4, h5⟩ := lawB_yes hb
  have a := sm_bd (allB_take h3 v)
  have b := sm_bd (allB_drop h3 v)
  have e : sm w = sm (w.take v) + sm (w.drop v) := by
    unfold sm
    rw [← List.sum_append, List.take_append_drop]
  omega
theorem gS2_top {V : Nat → Int} {b : Bxd} {S' : Int} {s : Nat} (hb : lawB b.w = true) (hS : 0 ≤ S') (hV : ∀ s', s' ≤ 4 → 0 ≤ V s' ∧ V s' ≤ 4 * S') (hs : s ≤ 4) {v : Nat} (hv : v ≤ b.w.length) : 0 ≤ gS2 V b.w s v ∧ gS2 V b.w s v ≤ 4 * (S' * sm b.w) := by
  have h := gS2_bd hb hS hV hs v hv
  have m := smt_le hb v
  have := Int.mul_le_mul_of_nonneg_right m.2 (show 0 ≤ 4 * S' by omega)
  have e : sm b.w * (4 * S') = 4 * (S' * sm b.w) := by grind
  omega
theorem bval_bd : ∀ (n : Nat) {L : List Bxd}, L.length = n → BxOk L → ∀ {s : Nat}, s ≤ 4 → 0 ≤ bval L s ∧ bval L s ≤ 4 * scB L := by
  intro n
  induction n with
  | zero =>
    intro L hl h s hs
    obtain rfl : L = [] := List.eq_nil_of_length_eq_zero hl
    rw [bval_eq]
    show 0 ≤ (s : Int) * 1 ∧ (s : Int) * 1 ≤ 4 * 1
    omega
  | succ n ih =>
    intro L hl h s hs
    have hS := scB_bd h
    have key : ∀ i, i ≤ L.length → 0 ≤ mS (fun i => bval (L.eraseIdx i)) L s i ∧ mS (fun i => bval (L.eraseIdx i)) L s i ≤ 4 * scB L := by
      intro i
      induction i with
      | zero =>
        intro _
        rw [mS]
        have m := mul_bd (s : Int) (scB L) 4 (scB L) (by omega) (by omega) (by omega) (Int.le_refl _)
        omega
      | succ i ihi =>
        intro hi
        have h1 := ihi (by omega)
        have hlen : (L.eraseIdx i).length = n := by rw [List.length_eraseIdx, if_pos (by omega)]; omega
        have he := h.erase (i := i) (by omega)
        have hS' := scB_bd he
        have hb := h.2 i (by omega)
        have g := gS2_top (V := bval (L.eraseIdx i)) hb.1 (S' := scB (L.eraseIdx i)) (by omega) (fun s' hs' => ih hlen he hs') hs (Nat.le_refl _)
        rw [← scB_erase (by omega)] at g
        have f0 : 0 ≤ (bAt L i).fee * scB L := Int.mul_nonneg hb.2.1 (by omega)
        rw [mS, oS_eq, Int.neg_mul]
        unfold mxI
        split <;> omega
    rw [bval_eq]
    exact key _ (Nat.le_refl _)
theorem BxOk.bd (h : BxOk L) {s : Nat} (hs : s ≤ 4) : 0 ≤ bval L s ∧ bval L s ≤ 4 * scB L := bval_bd _ rfl h hs
theorem mS_bd (h : BxOk L) {s : Nat} (hs : s ≤ 4) : ∀ i, i ≤ L.length → 0 ≤ mS (fun i => bval (L.eraseIdx i)) L s i ∧ mS (fun i => bval (L.eraseIdx i)) L s i ≤ 4 * scB L := by
  have hS := scB_bd h
  intro i
  induction i with
  | zero =>
    intro _
    rw [mS]
    have m := mul_bd (s : Int) (scB L) 4 (scB L) (by omega) (by omega) (by omega) (Int.le_refl _)
    omega
  | succ i ihi =>
    intro hi
    have h1 := ihi (by omega)
    have he := h.erase (i := i) (by omega)
    have hS' := scB_bd he
    have hb := h.2 i (by omega)
    have g := gS2_top (V := bval (L.eraseIdx i)) hb.1 (S' := scB (L.eraseIdx i)) (by omega) (fun s' hs' => he.bd hs') hs (Nat.le_refl _)
    rw [← scB_erase (by omega)] at g
    have f0 : 0 ≤ (bAt L i).fee * scB L := Int.mul_nonneg hb.2.1 (by omega)
    rw [mS, oS_eq, Int.neg_mul]
    unfold mxI
    split <;> omega
end
/-- The boxes of a set by its number. -/
def sub : List Bxd → Nat → List Bxd
  | [], _ => []
  | b :: l, c => if c % 2 = 1 then b :: sub l (c / 2) else sub l (c / 2)
/-- How many of the first k bits are set. -/
def cnt : Nat → Nat → Nat
  | _, 0 => 0
  | c, k + 1 => c % 2 + cnt (c / 2) k
def bitB (c k : Nat) : Bool := decide (c / 2 ^ k % 2 = 1)
theorem bitB_succ (c k : Nat) : bitB c (k + 1) = bitB (c / 2) k := by
  unfold bitB
  rw [Nat.pow_succ, Nat.mul_comm, ← Nat.div_div_eq_div_mul]
theorem cnt_succ : ∀ (k c : Nat), cnt c (k + 1) = cnt c k + if bitB c k then 1 else 0
  | 0, c => by
    simp only [cnt, bitB, Nat.pow_zero, Nat.div_one, decide_eq_true_eq]
    split <;> omega
  | k + 1, c => by
    rw [cnt, cnt_succ k (c / 2), cnt, bitB_succ]
    omega
theorem sub_len : ∀ (L : List Bxd) (c : Nat), (sub L c).length = cnt c L.length
  | [], _ => rfl
  | b :: l, c => by
    rw [List.length_cons, cnt, sub]
    split
    · rw [List.length_cons, sub_len l (c / 2)]
      omega
    · rw [sub_len l (c / 2)]
      omega
theorem bit_le : ∀ (k c : Nat), bitB c k = true → 2 ^ k ≤ c
  | 0, c, h => by
    simp only [bitB, Nat.pow_zero, Nat.div_one, decide_eq_true_eq] at h
    simp
    omega
  | k + 1, c, h => by
    rw [bitB_succ] at h
    have := bit_le k (c / 2) h
    rw [Nat.pow_succ]
    omega
theorem sub_at : ∀ (L : List Bxd) (c k : Nat), k < L.length → bitB c k = true → cnt c k < (sub L c).length ∧ bAt (sub L c) (cnt c k) = bAt L k ∧ (sub L c).eraseIdx (cnt c k) = sub L (c - 2 ^ k) := by
  intro L
  induction L with
  | nil => intro c k h; simp at h
  | cons b l ih =>
    intro c k hk hb
    cases k with
    | zero =>
      simp only [bitB, Nat.pow_zero, Nat.div_one, decide_eq_true_eq] at hb
      simp only [cnt, Nat.pow_zero]
      rw [sub, if_pos hb]
      refine ⟨by simp, rfl, ?_⟩
      rw [List.eraseIdx_cons_zero, sub, if_neg (by omega)]
      congr 1
      omega
    | succ k =>
      rw [bitB_succ] at hb
      have hle := bit_le k (c / 2) hb
      obtain ⟨h1, h2, h3⟩ := ih (c / 2) k (by simpa using hk) hb
      have e1 : (c - 2 ^ (k + 1)) / 2 = c / 2 - 2 ^ k := by rw [Nat.pow_succ]; omega
      have e2 : (c - 2 ^ (k + 1)) % 2 = c % 2 := by rw [Nat.pow_succ]; omega
      rw [cnt, sub, sub, e1, e2, bAt_cons]
      by_cases hc : c % 2 = 1
      · rw [if_pos hc, if_pos hc, hc, Nat.add_comm 1, bAt_cons, List.eraseIdx_cons_succ, h3]
        exact ⟨by simp; exact h1, h2, rfl⟩
      · rw [if_neg hc, if_neg hc, show c % 2 = 0 by omega, Nat.zero_add]
        exact ⟨h1, h2, h3⟩
theorem sub_full : ∀ (L : List Bxd), sub L (2 ^ L.length - 1) = L
  | [] => rfl
  | b :: l => by
    have hp : 1 ≤ 2 ^ l.length := Nat.one_le_two_pow
    rw [List.length_cons, Nat.pow_succ, sub, if_pos (by omega), show (2 ^ l.length * 2 - 1) / 2 = 2 ^ l.length - 1 by omega, sub_full l]
theorem sub_ok : ∀ {L : List Bxd} (c : Nat), BxOk L → BxOk (sub L c) := by
  intro L c h
  have hm : ∀ (L : List Bxd) (c : Nat) (b : Bxd), b ∈ sub L c → b ∈ L := by
    intro L
    induction L with
    | nil => intro c b hb; exact hb
    | cons x l ih =>
      intro c b hb
      rw [sub] at hb
      split at hb
      · rcases List.mem_cons.1 hb with rfl | hb
        · exact List.mem_cons_self
        · exact List.mem_cons_of_mem _ (ih _ _ hb)
      · exact List.mem_cons_of_mem _ (ih _ _ hb)
  have hc : ∀ k c, cnt c k ≤ k := by
    intro k
    induction k with
    | zero => intro c; exact Nat.le_refl _
    | succ k ih => intro c; have := ih (c / 2); rw [cnt]; omega
  refine ⟨by rw [sub_len]; have := hc L.length c; have := h.1; omega, fun k hk => ?_⟩
  rw [bAt_get hk]
  obtain ⟨j, hj, e⟩ := List.mem_iff_getElem.1 (hm L c _ (List.getElem_mem hk))
  have := h.2 j hj
  rw [bAt_get hj, e] at this
  exact this
end Go.Proofs.Ytjnllbmknblecaa
