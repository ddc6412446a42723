/- The reference's game, plainly and walked: codes, one play, the best value at some places, all values. -/
import Derived.Test.YtfobjkdkjlbkfaaPlaA
import Derived.Test.YtfobjkdkjlbkfaaSS
import Derived.Test.YtfobjkdkjlbkfaaLvB
import Derived.Test.YtfobjkdkjlbkfaaButA
import Derived.Test.YtfobjkdkjlbkfaaCopy
namespace Go.Proofs.Ytfobjkdkjlbkfaa
open Go.RowKit

/-- Places as a list. -/
def atL (n : Nat) (X : Nat → Nat) : List Int := (List.range n).map fun k => (X k : Int)
theorem atL_len (n : Nat) (X : Nat → Nat) : (atL n X).length = n := by simp [atL]
theorem atL_nth {n : Nat} {X : Nat → Nat} {k : Nat} (h : k < n) : nth (atL n X) k = (X k : Int) := by simp [nth, atL, h]
def fLen (L : List Mkd) (k : Nat) : Nat := (mAt L k).F.length
def encN (L : List Mkd) (X : Nat → Nat) : Nat → Nat
  | 0 => 0
  | k + 1 => encN L X k * fLen L k + X k
def szN (L : List Mkd) : Nat → Nat
  | 0 => 1
  | k + 1 => szN L k * fLen L k
theorem encN_succ (L : List Mkd) (X : Nat → Nat) (k : Nat) : ((encN L X (k + 1) : Nat) : Int) = (encN L X k : Int) * (fLen L k : Int) + (X k : Int) := by
  rw [encN, Int.natCast_add, Int.natCast_mul]
theorem szN_succ (L : List Mkd) (k : Nat) : ((szN L (k + 1) : Nat) : Int) = (szN L k : Int) * (fLen L k : Int) := by
  rw [szN, Int.natCast_mul]
section
variable {L : List Mkd} {a b : Int} {X : Nat → Nat}
theorem ArmsOk.fl (h : ArmsOk L a b) {k : Nat} (hk : k < L.length) : fLen L k = (mAt L k).P.length ∧ 1 ≤ fLen L k ∧ fLen L k ≤ 9 := by
  have h1 := (h.arm hk).len
  have h2 := (h.arm hk).n9
  have h3 := (h.arm hk).tree.n1
  unfold fLen
  omega
theorem ArmsOk.sz (h : ArmsOk L a b) : ∀ k, k ≤ L.length → 1 ≤ szN L k ∧ szN L k ≤ 9 ^ k := by
  intro k
  induction k with
  | zero => intro _; exact ⟨Nat.le_refl _, Nat.le_refl _⟩
  | succ k ih =>
    intro hk
    have h1 := ih (by omega)
    have h2 := h.fl (k := k) (by omega)
    rw [szN, Nat.pow_succ]
    exact ⟨Nat.mul_pos h1.1 h2.2.1, Nat.mul_le_mul h1.2 h2.2.2⟩
theorem ArmsOk.sz729 (h : ArmsOk L a b) {k : Nat} (hk : k ≤ L.length) : 1 ≤ szN L k ∧ szN L k ≤ 729 := by
  have h1 := h.sz k hk
  have h3 := h.n3
  have : 9 ^ k ≤ 9 ^ 3 := Nat.pow_le_pow_right (by decide) (by omega)
  exact ⟨h1.1, Nat.le_trans h1.2 this⟩
theorem ArmsOk.enc_lt (h : ArmsOk L a b) (hX : AtOk L X) : ∀ k, k ≤ L.length → encN L X k < szN L k := by
  intro k
  induction k with
  | zero => intro _; exact Nat.lt_succ_self 0
  | succ k ih =>
    intro hk
    have h1 := ih (by omega)
    have h2 := h.fl (k := k) (by omega)
    have h3 := hX k (by omega)
    rw [encN, szN]
    have : (encN L X k + 1) * fLen L k ≤ szN L k * fLen L k := Nat.mul_le_mul_right _ h1
    rw [Nat.succ_mul] at this
    omega
theorem ArmsOk.enc_bd (h : ArmsOk L a b) (hX : AtOk L X) {k : Nat} (hk : k ≤ L.length) : encN L X k < 729 := by
  have h1 := h.enc_lt hX k hk
  have h2 := (h.sz729 hk).2
  omega
/-- A later node, a later code. -/
theorem encN_upd (L : List Mkd) {i y : Nat} (hy : X i < y) : ∀ k, (k ≤ i → encN L (updX X i y) k = encN L X k) ∧ (i < k → (∀ j, j < k → 1 ≤ fLen L j) → encN L X k < encN L (updX X i y) k) := by
  intro k
  induction k with
  | zero => exact ⟨fun _ => rfl, fun h => by omega⟩
  | succ k ih =>
    refine ⟨fun h => ?_, fun h hf => ?_⟩
    · rw [encN, encN, ih.1 (by omega), updX_ne X y (by omega)]
    · rcases Nat.lt_or_ge i k with h' | h'
      · have h1 := ih.2 h' fun j hj => hf j (by omega)
        have h2 := hf k (by omega)
        rw [encN, encN, updX_ne X y (by omega)]
        have : (encN L X k + 1) * fLen L k ≤ encN L (updX X i y) k * fLen L k := Nat.mul_le_mul_right _ h1
        rw [Nat.succ_mul] at this
        omega
      · obtain rfl : i = k := by omega
        rw [encN, encN, ih.1 (Nat.le_refl _), updX_self]
        omega
/-- The places of a code: k arms from the last one on have been taken off. -/
def restN (L : List Mkd) (n c : Nat) : Nat → Nat
  | 0 => c
  | k + 1 => restN L n c k / fLen L (n - 1 - k)
def decN (L : List Mkd) (n c : Nat) (k : Nat) : Nat := if k < n then restN L n c (n - 1 - k) % fLen L k else 0
theorem ArmsOk.dec_ok (h : ArmsOk L a b) (c : Nat) : AtOk L (decN L L.length c) := fun k hk => by
  have h1 := h.fl hk
  unfold decN
  rw [if_pos hk, ← h1.1]
  exact Nat.mod_lt _ (by omega)
theorem decN_out {n c k : Nat} (h : n ≤ k) : decN L n c k = 0 := by
  unfold decN
  rw [if_neg (by omega)]
theorem ArmsOk.rest_lt (h : ArmsOk L a b) {c : Nat} (hc : c < szN L L.length) : ∀ j, j ≤ L.length → restN L L.length c j < szN L (L.length - j) := by
  intro j
  induction j with
  | zero => intro _; exact hc
  | succ j ih =>
    intro hj
    have h1 := ih (by omega)
    have h2 := h.fl (k := L.length - 1 - j) (by omega)
    rw [show L.length - j = (L.length - 1 - j) + 1 by omega, szN] at h1
    rw [restN, show L.length - (j + 1) = L.length - 1 - j by omega]
    exact Nat.div_lt_of_lt_mul (by rw [Nat.mul_comm]; exact h1)
theorem ArmsOk.enc_dec (h : ArmsOk L a b) {c : Nat} (hc : c < szN L L.length) : ∀ k, k ≤ L.length → encN L (decN L L.length c) k = restN L L.length c (L.length - k) := by
  intro k
  induction k with
  | zero =>
    intro _
    have := h.rest_lt hc L.length (Nat.le_refl _)
    rw [Nat.sub_self, szN] at this
    rw [encN, Nat.sub_zero]
    omega
  | succ k ih =>
    intro hk
    have h1 := ih (by omega)
    rw [encN, h1]
    have e : L.length - k = (L.length - (k + 1)) + 1 := by omega
    rw [e, restN, show L.length - 1 - (L.length - (k + 1)) = k by omega]
    have h2 : decN L L.length c k = restN L L.length c (L.length - (k + 1)) % fLen L k := by
      unfold decN
      rw [if_pos (by omega), show L.length - 1 - k = L.length - (k + 1) by omega]
    rw [h2, Nat.mul_comm]
    exact Nat.div_add_mod _ _
theorem ArmsOk.rest_enc (h : ArmsOk L a b) (hX : AtOk L X) : ∀ j, j ≤ L.length → restN L L.length (encN L X L.length) j = encN L X (L.length - j) := by
  intro j
  induction j with
  | zero => intro _; rfl
  | succ j ih =>
    intro hj
    have h1 := ih (by omega)
    have h2 := h.fl (k := L.length - 1 - j) (by omega)
    have h3 := hX (L.length - 1 - j) (by omega)
    rw [restN, h1, show L.length - j = (L.length - 1 - j) + 1 by omega, encN, show L.length - (j + 1) = L.length - 1 - j by omega]
    rw [Nat.add_comm, Nat.add_mul_div_right _ _ (by omega), Nat.div_eq_of_lt (by omega), Nat.zero_add]
theorem ArmsOk.dec_enc (h : ArmsOk L a b) (hX : AtOk L X) {k : Nat} (hk : k < L.length) : decN L L.length (encN L X L.length) k = X k := by
  have h2 := h.fl hk
  have h3 := hX k hk
  unfold decN
  rw [if_pos hk, h.rest_enc hX _ (by omega), show L.length - (L.length - 1 - k) = k + 1 by omega, encN, Nat.add_comm, Nat.add_mul_mod_self_right]
  exact Nat.mod_eq_of_lt (by omega)
/-- The units' product. -/
def unTo (L : List Mkd) (b : Int) (X : Nat → Nat) : Nat → Int
  | 0 => 1
  | k + 1 => unTo L b X k * nth (unitL (mAt L k).P (mAt L k).W b) (X k)
theorem ArmsOk.un_sc (h : ArmsOk L a b) (hX : AtOk L X) : ∀ k, k ≤ L.length → unTo L b X k = prTo (rowsF sumRow L) X k * pw b (suTo (rowsF leftRow L) X k).toNat := by
  have hs := h.scOk hX
  intro k
  induction k with
  | zero => intro _; simp [prTo, suTo, unTo, pw]
  | succ k ih =>
    intro hk
    have hk' : k < L.length := by omega
    have h1 := ih (by omega)
    have h2 := (hs.su k (by omega)).1
    have h3 := (hs.bT k hk').1
    rw [unTo, h1, prTo, suTo, Int.toNat_add h2 h3, pwAdd]
    rw [rowsF_at hk', rowsF_at hk', leftRow_nth (hX k hk'), unitL_nth (hX k hk')]
    unfold unitX sumRow
    generalize pw b (suTo (rowsF leftRow L) X k).toNat = q
    generalize pw b (hgt (mAt L k).P - nth (dep (mAt L k).P) (X k)).toNat = r
    simp only [Int.mul_assoc, Int.mul_comm, Int.mul_left_comm]
theorem ArmsOk.un_all (h : ArmsOk L a b) (hX : AtOk L X) : unTo L b X L.length = scX L b X := h.un_sc hX _ (Nat.le_refl _)
theorem ArmsOk.un_bd (h : ArmsOk L a b) (_hX : AtOk L X) {k : Nat} (hk : k ≤ L.length) : 0 ≤ unTo L b X k ∧ unTo L b X k ≤ 1855425871872000 := by
  have : ∀ k, k ≤ L.length → 0 ≤ unTo L b X k ∧ unTo L b X k ≤ 122880 ^ k := by
    intro k
    induction k with
    | zero => intro _; exact ⟨show (0 : Int) ≤ 1 by decide, show (1 : Int) ≤ 122880 ^ 0 by decide⟩
    | succ k ih =>
      intro hk
      have h1 := ih (by omega)
      have ha := h.a1
      have hb := h.ab
      have h2 := unitL_bd (h.arm (i := k) (by omega)) (show 0 ≤ b by omega) h.b4 (X k)
      have := mul_bd (unTo L b X k) (nth (unitL (mAt L k).P (mAt L k).W b) (X k)) (122880 ^ k) 122880 h1.1 h1.2 h2.1 h2.2
      exact ⟨this.1, by rw [Int.pow_succ]; exact this.2⟩
  have h1 := this k hk
  have h3 := h.n3
  refine ⟨h1.1, Int.le_trans h1.2 ?_⟩
  match k, Nat.le_trans hk h3 with
  | 0, _ => decide
  | 1, _ => decide
  | 2, _ => decide
  | 3, _ => decide
end

def gmV (A : Option Addr) (c : Nat) (AU : Option Addr) (cU : Nat) (AN : Option Addr) (cN n : Nat) (a b : Int) : Value := .agg #[.slice A n c, .slice AU n cU, .slice AN n cN, .int .i64 a, .int .i64 b]
def unR (L : List Mkd) (b : Int) : List (List Int) := (List.range L.length).map fun k => unitL (mAt L k).P (mAt L k).W b
theorem unR_len (L : List Mkd) (b : Int) : (unR L b).length = L.length := by simp [unR]
theorem unR_at {L : List Mkd} {b : Int} {k : Nat} (h : k < L.length) : rowAt (unR L b) k = unitL (mAt L k).P (mAt L k).W b := by simp [rowAt, unR, h]
theorem atL_set {n i : Nat} {X : Nat → Nat} (z y : Nat) : (atL n (updX X i z)).set i (y : Int) = atL n (updX X i y) := by
  apply List.ext_getElem
  · simp [atL]
  · intro j h1 h2
    simp only [List.getElem_set, atL, List.getElem_map, List.getElem_range]
    rcases Decidable.em (i = j) with rfl | hne
    · simp [updX]
    · rw [if_neg hne, updX_ne X z (Ne.symm hne), updX_ne X y (Ne.symm hne)]
theorem l1OwnAt_c (A : Option Addr) (n : Nat) (X : Nat → Nat) (c : Nat) (w : World) (ha : Rd w A (ints (atL n X))) (hl : n ≤ 16777216) : Calls Try.prog 95 #[.slice A n c] w (RowN w n (atL n X)) := by
  have C := l1Own_c A (atL n X) c w ha (by rw [atL_len]; exact hl)
  rw [atL_len] at C
  exact C.mono fun _ _ hr => rowN hr (atL_len _ _)
structure Bx5 (w : World) (g : Nat) (x0 x1 x2 x3 x4 : Value) : Prop where
  c0 : w.cell? ⟨g, 0, none⟩ = some x0
  c1 : w.cell? ⟨g, 1, none⟩ = some x1
  c2 : w.cell? ⟨g, 2, none⟩ = some x2
  c3 : w.cell? ⟨g, 3, none⟩ = some x3
  c4 : w.cell? ⟨g, 4, none⟩ = some x4
theorem Bx5.new (w : World) (x0 x1 x2 x3 x4 : Value) (t : TypeId) : Bx5 (w.alloc (.cells #[x0, x1, x2, x3, x4] t)) w.heap.size x0 x1 x2 x3 x4 := ⟨by simp, by simp, by simp, by simp, by simp⟩
theorem Bx5.keep {w w' : World} {g : Nat} {x0 x1 x2 x3 x4 : Value} (h : Bx5 w g x0 x1 x2 x3 x4) (hk : ∀ q : Addr, q.block < w.heap.size → w'.cell? q = w.cell? q) : Bx5 w' g x0 x1 x2 x3 x4 :=
  ⟨(hk _ (cell_lt h.c0)).trans h.c0, (hk _ (cell_lt h.c1)).trans h.c1, (hk _ (cell_lt h.c2)).trans h.c2, (hk _ (cell_lt h.c3)).trans h.c3, (hk _ (cell_lt h.c4)).trans h.c4⟩
set_option maxRecDepth 20000 in
set_option maxHeartbeats 2000000 in
theorem l8Code_c {L : List Mkd} {a b : Int} (hok : ArmsOk L a b) {X : Nat → Nat} (hX : AtOk L X) (A : Option Addr) (c : Nat) (AU : Option Addr) (cU : Nat) (AN : Option Addr) (cN : Nat) (B : Option Addr) (cb : Nat) (w : World) (h : RdMs w A L) (hB : Rd w B (ints (atL L.length X))) :
    Calls Try.prog 124 #[gmV A c AU cU AN cN L.length a b, .slice B L.length cb] w (Quietly w (.int .i64 (encN L X L.length : Nat))) := by
  unfold gmV
  have HB1 : Below w.heap.size w (w.alloc (.cells #[.slice A L.length c, .slice AU L.length cU, .slice AN L.length cN, .int .i64 a, .int .i64 b] 101)) := (Below.refl _ _).alloc (Nat.le_refl _) _
  have bx := (Bx5.new w (.slice A L.length c) (.slice AU L.length cU) (.slice AN L.length cN) (.int .i64 a) (.int .i64 b) 101).c0
  have hz : w.heap.size < (w.alloc (.cells #[.slice A L.length c, .slice AU L.length cU, .slice AN L.length cN, .int .i64 a, .int .i64 b] 101)).heap.size := by simp
  have h' := h.below HB1 (Nat.le_refl _)
  have hB' := hB.below HB1 (Nat.le_refl _)
  have hn3 := hok.n3
  clear h hB
  go_enter Try.func124, Try.ntmps124
  go_wp2_with fail
  generalize w.alloc (.cells #[.slice A L.length c, .slice AU L.length cU, .slice AN L.length cN, .int .i64 a, .int .i64 b] 101) = u at *
  go_loopw [5, 6] (fun o i wr => ∃ k : Nat, k ≤ L.length ∧ i = .int .i64 (k : Int) ∧ o = .int .i64 (encN L X k : Nat) ∧ Below u.heap.size u wr) (fun _ i _ => L.length - (intOf i).toNat)
  case atStart => exact ⟨0, by omega, rfl, rfl, Below.refl _ _⟩
  case round =>
    obtain ⟨v, rfl⟩ : ∃ v : World, v = wr := ⟨_, rfl⟩
    obtain ⟨k, hk, rfl, rfl, HB⟩ := hrel
    by_cases hlt : k < L.length
    · obtain ⟨ad, A1, c1, A2, c2, A3, c3, rfl, _, _, q3, _, _, _⟩ := (h'.below HB (Nat.le_refl _)) k hlt
      have q3' := cellOff 2 (by omega) q3
      obtain ⟨ax, rfl, qx⟩ := (hB'.below HB (Nat.le_refl _)).intN (k := k) (by rw [atL_len]; exact hlt)
      rw [atL_nth hlt] at qx
      have bx' := (HB.cell (p := ⟨w.heap.size, 0, none⟩) hz).trans bx
      have hs := encN_succ L X k
      have g1 := hok.enc_bd hX hk
      have g2 := hok.enc_bd hX hlt
      have g3 := hok.fl hlt
      have g4 := hX k hlt
      unfold fLen at hs g3
      generalize hfl : (mAt L k).F.length = fl at *
      have hmul : (0 : Int) ≤ (encN L X k : Int) * (fl : Int) ∧ (encN L X k : Int) * (fl : Int) ≤ 729 * 9 := mul_bd _ _ 729 9 (by omega) (by omega) (by omega) (by omega)
      have e1 : IntKind.i64.wrap ((encN L X k : Int) * (fl : Int)) = (encN L X k : Int) * (fl : Int) := IntWalk.i64_in _ (by omega)
      have e2 : IntKind.i64.wrap ((encN L X k : Int) * (fl : Int) + (X k : Int)) = (encN L X k : Int) * (fl : Int) + (X k : Int) := IntWalk.i64_in _ (by omega)
      have HS := Lib.hid hs
      clear hs hmul q3 g1 g2 g3 g4 hfl
      go_upto_region 5 with fail
      have hd1 : Below v.heap.size v v.drew := Below.drew (Below.refl _ _)
      have SK1 : Hid (∀ w', Below v.heap.size v w' → w'.cell? ⟨w.heap.size, 0, none⟩ = some (.slice (some ad) L.length c) ∧ w'.cell? ⟨(ad.add (k * 3)).block, (ad.add (k * 3)).off + 2, none⟩ = some (.slice A3 fl c3) ∧ w'.cell? (ax.add k) = some (.int .i64 (X k : Nat))) := Lib.hid fun w' HV => ⟨(HV.cell (cell_lt bx')).trans bx', (HV.cell (cell_lt q3')).trans q3', (HV.cell (cell_lt qx)).trans qx⟩
      clear bx' q3' qx
      have hS1_0 := SK1.out _ hd1
      refine tamed_region (S := fun w' => w'.cell? ⟨w.heap.size, 0, none⟩ = some (.slice (some ad) L.length c) ∧ w'.cell? ⟨(ad.add (k * 3)).block, (ad.add (k * 3)).off + 2, none⟩ = some (.slice A3 fl c3) ∧ w'.cell? (ax.add k) = some (.int .i64 (X k : Nat))) (fun _ => false) (by kernel_rfl) ?_
      refine tame0 (k := 0) ?_ rfl (by kernel_rfl) (by kernel_rfl) (by kernel_rfl) (fun _ _ _ h => h) (by kernel_rfl) (fun v => ?_) ?_
      rotate_left
      · (go_simp; all_goals rfl)
      simp only [Act.put, List.setIfInBounds_toArray]
      refine tame0 (k := 1) ?_ rfl (by kernel_rfl) (by kernel_rfl) (by kernel_rfl) (fun _ _ _ h => h) (by kernel_rfl) (fun v => ?_) ?_
      rotate_left
      · (go_simp; all_goals rfl)
      simp only [Act.put]
      refine tame (k := 2) ?_ rfl (by kernel_rfl) (by kernel_rfl) (by kernel_rfl) (by kernel_rfl) (fun _ _ _ h => h) (by kernel_rfl) hS1_0 (fun v hv => ?_) ?_
      rotate_left
      · (obtain ⟨k1, k2, k3⟩ := hv; go_simp; all_goals rfl)
      simp only [Act.put]
      refine tame0 (k := 3) ?_ rfl (by kernel_rfl) (by kernel_rfl) (by kernel_rfl) (fun _ _ _ h => h) (by kernel_rfl) (fun v => ?_) ?_
      rotate_left
      · (go_simp; all_goals rfl)
      simp only [Act.put]
      refine tame0 (k := 4) ?_ rfl (by kernel_rfl) (by kernel_rfl) (by kernel_rfl) (fun _ _ _ h => h) (by kernel_rfl) (fun v => ?_) ?_
      rotate_left
      · (go_simp; all_goals rfl)
      simp only [Act.put]
      refine tame0 (k := 5) ?_ rfl (by kernel_rfl) (by kernel_rfl) (by kernel_rfl) (fun _ _ _ h => h) (by kernel_rfl) (fun v => ?_) ?_
      rotate_left
      · (go_simp; all_goals rfl)
      simp only [Act.put]
      refine tame (k := 6) ?_ rfl (by kernel_rfl) (by kernel_rfl) (by kernel_rfl) (by kernel_rfl) (fun _ _ _ h => h) (by kernel_rfl) hS1_0 (fun v hv => ?_) ?_
      rotate_left
      · (obtain ⟨k1, k2, k3⟩ := hv; go_simp; all_goals rfl)
      simp only [Act.put]
      refine tame0 (k := 7) ?_ rfl (by kernel_rfl) (by kernel_rfl) (by kernel_rfl) (fun _ _ _ h => h) (by kernel_rfl) (fun v => ?_) ?_
      rotate_left
      · (go_simp; all_goals rfl)
      simp only [Act.put]
      refine tame0 (k := 8) ?_ rfl (by kernel_rfl) (by kernel_rfl) (by kernel_rfl) (fun _ _ _ h => h) (by kernel_rfl) (fun v => ?_) ?_
      rotate_left
      · (go_simp; all_goals rfl)
      simp only [Act.put]
      refine tame0 (k := 9) ?_ rfl (by kernel_rfl) (by kernel_rfl) (by kernel_rfl) (fun _ _ _ h => h) (by kernel_rfl) (fun v => ?_) ?_
      rotate_left
      · (go_simp; all_goals rfl)
      simp only [Act.put]
      refine tame0 (k := 10) ?_ rfl (by kernel_rfl) (by kernel_rfl) (by kernel_rfl) (fun _ _ _ h => h) (by kernel_rfl) (fun v => ?_) ?_
      rotate_left
      · (go_simp; all_goals rfl)
      simp only [Act.put]
      refine tame0 (k := 11) ?_ rfl (by kernel_rfl) (by kernel_rfl) (by kernel_rfl) (fun _ _ _ h => h) (by kernel_rfl) (fun v => ?_) ?_
      rotate_left
      · (go_simp; all_goals rfl)
      simp only [Act.put]
      refine tame (k := 12) ?_ rfl (by kernel_rfl) (by kernel_rfl) (by kernel_rfl) (by kernel_rfl) (fun _ _ _ h => h) (by kernel_rfl) hS1_0 (fun v hv => ?_) ?_
      rotate_left
      · (obtain ⟨k1, k2, k3⟩ := hv; go_simp; all_goals rfl)
      simp only [Act.put]
      refine tame0 (k := 13) ?_ rfl (by kernel_rfl) (by kernel_rfl) (by kernel_rfl) (fun _ _ _ h => h) (by kernel_rfl) (fun v => ?_) ?_
      rotate_left
      · (go_simp; all_goals rfl)
      simp only [Act.put]
      have hS1_0v := Lib.hid hS1_0
      clear hS1_0
      refine tame_one (k := 14) (by kernel_rfl) rfl (by kernel_rfl) ?_
      go_simp
      refine ⟨by first | exact hS1_0v | exact Hid.out hS1_0v, ?_⟩
      refine tame_end (by kernel_rfl) ?_
      have HB2 : Below u.heap.size u v.drew := Below.drew HB
      generalize v.drew = v2 at *
      go_wp2_with fail
      go_roundw
      case rel => exact ⟨k + 1, by omega, by go_num, by rw [HS.out], HB2⟩
      case measure => simp [intOf] <;> omega
    · obtain rfl : k = L.length := by omega
      go_wp2_with fail
      go_ret
      exact ⟨rfl, bUp HB1 HB HB1.size⟩
set_option maxRecDepth 20000 in
set_option maxHeartbeats 4000000 in
theorem l8After_c {L : List Mkd} {a b : Int} {pl : Option ((Nat → Nat) → Int)} (hok : ArmsOk L a b) (hpl : PlOk L pl) {X : Nat → Nat} (hX : AtOk L X) {i : Nat} (hi : i < L.length) (A : Option Addr) (c : Nat) (AU : Option Addr) (cU : Nat) (AN : Option Addr) (cN : Nat) (VB : Option Addr) (cv : Nat) (vals : List Int) (B : Option Addr) (cb : Nat) (w : World)
    (h : RdMs w A L) (hU : RdSS w AU (unR L b)) (hV : Rd w VB (ints vals)) (hvl : vals.length = szN L L.length) (hB : Rd w B (ints (atL L.length X)))
    (hvals : ∀ y, y < (mAt L i).P.length → nth (mAt L i).P y = (X i : Nat) → nth vals (encN L (updX X i y) L.length) = valX L a b pl (updX X i y)) :
    Calls Try.prog 86 #[gmV A c AU cU AN cN L.length a b, .slice VB (szN L L.length) cv, .slice B L.length cb, .int .i64 (i : Int)] w (Quietly w (.int .i64 (aft L a b (valX L a b pl) X i))) := by
  have HVV := Lib.hid hvals
  unfold gmV
  have HB1 : Below w.heap.size w (w.alloc (.cells #[.slice A L.length c, .slice AU L.length cU, .slice AN L.length cN, .int .i64 a, .int .i64 b] 101)) := (Below.refl _ _).alloc (Nat.le_refl _) _
  have bx := Lib.hid (Bx5.new w (.slice A L.length c) (.slice AU L.length cU) (.slice AN L.length cN) (.int .i64 a) (.int .i64 b) 101)
  have hz : w.heap.size < (w.alloc (.cells #[.slice A L.length c, .slice AU L.length cU, .slice AN L.length cN, .int .i64 a, .int .i64 b] 101)).heap.size := by simp
  have h' := h.below HB1 (Nat.le_refl _)
  have hB' := hB.below HB1 (Nat.le_refl _)
  have hU' := hU.below HB1 (Nat.le_refl _)
  have hV' := hV.below HB1 (Nat.le_refl _)
  have hn3 := hok.n3
  have hlv := Lib.hid hvl
  clear h hB hU hV hvals hvl
  have hxi := hX i hi
  have hfl := (hok.arm hi).len
  have hf : -99 ≤ nth (mAt L i).F (X i) ∧ nth (mAt L i).F (X i) ≤ 99 := allB_nth (hok.arm hi).fees (by omega)
  go_enter Try.func86, Try.ntmps86
  go_upto_region 1 with fail
  generalize w.alloc (.cells #[.slice A L.length c, .slice AU L.length cU, .slice AN L.length cN, .int .i64 a, .int .i64 b] 101) = u at *
  obtain ⟨ad, A1, c1, A2, c2, A3, c3, rfl, p1, p2, q3, t1, _, r3⟩ := h' i hi
  have P1 := Lib.hid p1
  have P2 := Lib.hid (cellOff 1 (by omega) p2)
  have q3' := cellOff 2 (by omega) q3
  obtain ⟨af, rfl, qf⟩ := r3.intN (k := X i) (by omega)
  rw [hfl] at q3'
  obtain ⟨ax, rfl, qx⟩ := hB'.intN (k := i) (by rw [atL_len]; exact hi)
  rw [atL_nth hi] at qx
  have bx' := bx.out.c0
  clear q3 r3 hfl p1 p2
  have hd2 : Below u.heap.size u u.drew := Below.drew (Below.refl _ _)
  have SK2 : Hid (∀ w', Below u.heap.size u w' → w'.cell? ⟨w.heap.size, 0, none⟩ = some (.slice (some ad) L.length c) ∧ w'.cell? ⟨(ad.add (i * 3)).block, (ad.add (i * 3)).off + 2, none⟩ = some (.slice (some af) (mAt L i).P.length c3) ∧ w'.cell? (ax.add i) = some (.int .i64 (X i : Nat)) ∧ w'.cell? (af.add (X i)) = some (.int .i64 (nth (mAt L i).F (X i)))) := Lib.hid fun w' HV => ⟨(HV.cell (cell_lt bx')).trans bx', (HV.cell (cell_lt q3')).trans q3', (HV.cell (cell_lt qx)).trans qx, (HV.cell (cell_lt qf)).trans qf⟩
  clear bx' q3' qx qf
  have hS2_0 := SK2.out _ hd2
  refine tamed_region (S := fun w' => w'.cell? ⟨w.heap.size, 0, none⟩ = some (.slice (some ad) L.length c) ∧ w'.cell? ⟨(ad.add (i * 3)).block, (ad.add (i * 3)).off + 2, none⟩ = some (.slice (some af) (mAt L i).P.length c3) ∧ w'.cell? (ax.add i) = some (.int .i64 (X i : Nat)) ∧ w'.cell? (af.add (X i)) = some (.int .i64 (nth (mAt L i).F (X i)))) (fun _ => false) (by kernel_rfl) ?_
  refine tame0 (k := 0) ?_ rfl (by kernel_rfl) (by kernel_rfl) (by kernel_rfl) (fun _ _ _ h => h) (by kernel_rfl) (fun v => ?_) ?_
  rotate_left
  · (go_simp; all_goals rfl)
  simp only [Act.put, List.setIfInBounds_toArray]
  refine tame (k := 1) ?_ rfl (by kernel_rfl) (by kernel_rfl) (by kernel_rfl) (by kernel_rfl) (fun _ _ _ h => h) (by kernel_rfl) hS2_0 (fun v hv => ?_) ?_
  rotate_left
  · (obtain ⟨k1, k2, k3, k4⟩ := hv; go_simp; all_goals rfl)
  simp only [Act.put]
  refine tame0 (k := 2) ?_ rfl (by kernel_rfl) (by kernel_rfl) (by kernel_rfl) (fun _ _ _ h => h) (by kernel_rfl) (fun v => ?_) ?_
  rotate_left
  · (go_simp; all_goals rfl)
  simp only [Act.put]
  refine tame0 (k := 3) ?_ rfl (by kernel_rfl) (by kernel_rfl) (by kernel_rfl) (fun _ _ _ h => h) (by kernel_rfl) (fun v => ?_) ?_
  rotate_left
  · (go_simp; all_goals rfl)
  simp only [Act.put]
  refine tame0 (k := 4) ?_ rfl (by kernel_rfl) (by kernel_rfl) (by kernel_rfl) (fun _ _ _ h => h) (by kernel_rfl) (fun v => ?_) ?_
  rotate_left
  · (go_simp; all_goals rfl)
  simp only [Act.put]
  refine tame (k := 5) ?_ rfl (by kernel_rfl) (by kernel_rfl) (by kernel_rfl) (by kernel_rfl) (fun _ _ _ h => h) (by kernel_rfl) hS2_0 (fun v hv => ?_) ?_
  rotate_left
  · (obtain ⟨k1, k2, k3, k4⟩ := hv; go_simp; all_goals rfl)
  simp only [Act.put]
  refine tame0 (k := 6) ?_ rfl (by kernel_rfl) (by kernel_rfl) (by kernel_rfl) (fun _ _ _ h => h) (by kernel_rfl) (fun v => ?_) ?_
  rotate_left
  · (go_simp; all_goals rfl)
  simp only [Act.put]
  refine tame0 (k := 7) ?_ rfl (by kernel_rfl) (by kernel_rfl) (by kernel_rfl) (fun _ _ _ h => h) (by kernel_rfl) (fun v => ?_) ?_
  rotate_left
  · (go_simp; all_goals rfl)
  simp only [Act.put]
  refine tame0 (k := 8) ?_ rfl (by kernel_rfl) (by kernel_rfl) (by kernel_rfl) (fun _ _ _ h => h) (by kernel_rfl) (fun v => ?_) ?_
  rotate_left
  · (go_simp; all_goals rfl)
  simp only [Act.put]
  refine tame (k := 9) ?_ rfl (by kernel_rfl) (by kernel_rfl) (by kernel_rfl) (by kernel_rfl) (fun _ _ _ h => h) (by kernel_rfl) hS2_0 (fun v hv => ?_) ?_
  rotate_left
  · (obtain ⟨k1, k2, k3, k4⟩ := hv; go_simp; all_goals rfl)
  simp only [Act.put]
  refine tame0 (k := 10) ?_ rfl (by kernel_rfl) (by kernel_rfl) (by kernel_rfl) (fun _ _ _ h => h) (by kernel_rfl) (fun v => ?_) ?_
  rotate_left
  · (go_simp; all_goals rfl)
  simp only [Act.put]
  refine tame (k := 11) ?_ rfl (by kernel_rfl) (by kernel_rfl) (by kernel_rfl) (by kernel_rfl) (fun _ _ _ h => h) (by kernel_rfl) hS2_0 (fun v hv => ?_) ?_
  rotate_left
  · (obtain ⟨k1, k2, k3, k4⟩ := hv; go_simp; all_goals rfl)
  simp only [Act.put]
  have hS2_0v := Lib.hid hS2_0
  clear hS2_0
  refine tame_one (k := 12) (by kernel_rfl) rfl (by kernel_rfl) ?_
  go_simp
  refine ⟨by first | exact hS2_0v | exact Hid.out hS2_0v, ?_⟩
  refine tame_end (by kernel_rfl) ?_
  have HB2 : Below u.heap.size u u.drew := Below.drew (Below.refl _ _)
  generalize u.drew = v1 at *
  go_wp2_with fail
  go_loopw [9, 10] (fun q j wr => ∃ k : Nat, k ≤ L.length ∧ j = .int .i64 (k : Int) ∧ q = .int .i64 (nth (mAt L i).F (X i) * unTo L b X k) ∧ Below u.heap.size u wr) (fun _ j _ => L.length - (intOf j).toNat)
  case atStart => exact ⟨0, by omega, rfl, by simp [unTo], HB2⟩
  case round =>
    clear HB2
    obtain ⟨v, rfl⟩ : ∃ v : World, v = wr := ⟨_, rfl⟩
    obtain ⟨k, hk, rfl, rfl, HB⟩ := hrel
    by_cases hlt : k < L.length
    · obtain ⟨az, AR, cr, rfl, q1, r1⟩ := (hU'.below HB (Nat.le_refl _)) k (by rw [unR_len]; exact hlt)
      rw [unR_at hlt, unitL_length] at q1
      rw [unR_at hlt] at r1
      have hxk := hX k hlt
      obtain ⟨ar, rfl, q2⟩ := r1.intN (k := X k) (by rw [unitL_length]; exact hxk)
      have bx' := (HB.cell (p := ⟨w.heap.size, 1, none⟩) hz).trans bx.out.c1
      have qx := (hB'.below HB (Nat.le_refl _))
      obtain ⟨ax2, eax, qx⟩ := qx.intN (k := k) (by rw [atL_len]; exact hlt)
      injection eax with eax
      subst eax
      rw [atL_nth hlt] at qx
      have hu1 := hok.un_bd hX hlt
      have hm := mulAbs (x := nth (mAt L i).F (X i)) (y := unTo L b X (k + 1)) (A := 99) (B := 1855425871872000) hf hu1 (by decide)
      have eu : nth (mAt L i).F (X i) * unTo L b X k * nth (unitL (mAt L k).P (mAt L k).W b) (X k) = nth (mAt L i).F (X i) * unTo L b X (k + 1) := by rw [Int.mul_assoc]; rfl
      have e1 : IntKind.i64.wrap (nth (mAt L i).F (X i) * unTo L b X k * nth (unitL (mAt L k).P (mAt L k).W b) (X k)) = nth (mAt L i).F (X i) * unTo L b X k * nth (unitL (mAt L k).P (mAt L k).W b) (X k) := IntWalk.i64_in _ (by rw [eu]; omega)
      have EU := Lib.hid eu
      clear r1 hm hu1 eu
      go_upto_region 5 with fail
      have hd3 : Below v.heap.size v v.drew := Below.drew (Below.refl _ _)
      have SK3 : Hid (∀ w', Below v.heap.size v w' → w'.cell? ⟨w.heap.size, 1, none⟩ = some (.slice (some az) L.length cU) ∧ w'.cell? (az.add k) = some (.slice (some ar) (mAt L k).P.length cr) ∧ w'.cell? (ax.add k) = some (.int .i64 (X k : Nat)) ∧ w'.cell? (ar.add (X k)) = some (.int .i64 (nth (unitL (mAt L k).P (mAt L k).W b) (X k)))) := Lib.hid fun w' HV => ⟨(HV.cell (cell_lt bx')).trans bx', (HV.cell (cell_lt q1)).trans q1, (HV.cell (cell_lt qx)).trans qx, (HV.cell (cell_lt q2)).trans q2⟩
      clear bx' q1 qx q2
      have hS3_0 := SK3.out _ hd3
      refine tamed_region (S := fun w' => w'.cell? ⟨w.heap.size, 1, none⟩ = some (.slice (some az) L.length cU) ∧ w'.cell? (az.add k) = some (.slice (some ar) (mAt L k).P.length cr) ∧ w'.cell? (ax.add k) = some (.int .i64 (X k : Nat)) ∧ w'.cell? (ar.add (X k)) = some (.int .i64 (nth (unitL (mAt L k).P (mAt L k).W b) (X k)))) (fun _ => false) (by kernel_rfl) ?_
      refine tame0 (k := 0) ?_ rfl (by kernel_rfl) (by kernel_rfl) (by kernel_rfl) (fun _ _ _ h => h) (by kernel_rfl) (fun v => ?_) ?_
      rotate_left
      · (go_simp; all_goals rfl)
      simp only [Act.put, List.setIfInBounds_toArray]
      refine tame0 (k := 1) ?_ rfl (by kernel_rfl) (by kernel_rfl) (by kernel_rfl) (fun _ _ _ h => h) (by kernel_rfl) (fun v => ?_) ?_
      rotate_left
      · (go_simp; all_goals rfl)
      simp only [Act.put]
      refine tame (k := 2) ?_ rfl (by kernel_rfl) (by kernel_rfl) (by kernel_rfl) (by kernel_rfl) (fun _ _ _ h => h) (by kernel_rfl) hS3_0 (fun v hv => ?_) ?_
      rotate_left
      · (obtain ⟨k1, k2, k3, k4⟩ := hv; go_simp; all_goals rfl)
      simp only [Act.put]
      refine tame0 (k := 3) ?_ rfl (by kernel_rfl) (by kernel_rfl) (by kernel_rfl) (fun _ _ _ h => h) (by kernel_rfl) (fun v => ?_) ?_
      rotate_left
      · (go_simp; all_goals rfl)
      simp only [Act.put]
      refine tame0 (k := 4) ?_ rfl (by kernel_rfl) (by kernel_rfl) (by kernel_rfl) (fun _ _ _ h => h) (by kernel_rfl) (fun v => ?_) ?_
      rotate_left
      · (go_simp; all_goals rfl)
      simp only [Act.put]
      refine tame (k := 5) ?_ rfl (by kernel_rfl) (by kernel_rfl) (by kernel_rfl) (by kernel_rfl) (fun _ _ _ h => h) (by kernel_rfl) hS3_0 (fun v hv => ?_) ?_
      rotate_left
      · (obtain ⟨k1, k2, k3, k4⟩ := hv; go_simp; all_goals rfl)
      simp only [Act.put]
      refine tame0 (k := 6) ?_ rfl (by kernel_rfl) (by kernel_rfl) (by kernel_rfl) (fun _ _ _ h => h) (by kernel_rfl) (fun v => ?_) ?_
      rotate_left
      · (go_simp; all_goals rfl)
      simp only [Act.put]
      refine tame0 (k := 7) ?_ rfl (by kernel_rfl) (by kernel_rfl) (by kernel_rfl) (fun _ _ _ h => h) (by kernel_rfl) (fun v => ?_) ?_
      rotate_left
      · (go_simp; all_goals rfl)
      simp only [Act.put]
      refine tame0 (k := 8) ?_ rfl (by kernel_rfl) (by kernel_rfl) (by kernel_rfl) (fun _ _ _ h => h) (by kernel_rfl) (fun v => ?_) ?_
      rotate_left
      · (go_simp; all_goals rfl)
      simp only [Act.put]
      refine tame (k := 9) ?_ rfl (by kernel_rfl) (by kernel_rfl) (by kernel_rfl) (by kernel_rfl) (fun _ _ _ h => h) (by kernel_rfl) hS3_0 (fun v hv => ?_) ?_
      rotate_left
      · (obtain ⟨k1, k2, k3, k4⟩ := hv; go_simp; all_goals rfl)
      simp only [Act.put]
      refine tame0 (k := 10) ?_ rfl (by kernel_rfl) (by kernel_rfl) (by kernel_rfl) (fun _ _ _ h => h) (by kernel_rfl) (fun v => ?_) ?_
      rotate_left
      · (go_simp; all_goals rfl)
      simp only [Act.put]
      refine tame (k := 11) ?_ rfl (by kernel_rfl) (by kernel_rfl) (by kernel_rfl) (by kernel_rfl) (fun _ _ _ h => h) (by kernel_rfl) hS3_0 (fun v hv => ?_) ?_
      rotate_left
      · (obtain ⟨k1, k2, k3, k4⟩ := hv; go_simp; all_goals rfl)
      simp only [Act.put]
      refine tame0 (k := 12) ?_ rfl (by kernel_rfl) (by kernel_rfl) (by kernel_rfl) (fun _ _ _ h => h) (by kernel_rfl) (fun v => ?_) ?_
      rotate_left
      · (go_simp; all_goals rfl)
      simp only [Act.put]
      have hS3_0v := Lib.hid hS3_0
      clear hS3_0
      refine tame_one (k := 13) (by kernel_rfl) rfl (by kernel_rfl) ?_
      go_simp
      refine ⟨by first | exact hS3_0v | exact Hid.out hS3_0v, ?_⟩
      refine tame_end (by kernel_rfl) ?_
      have HB3 : Below u.heap.size u v.drew := Below.drew HB
      generalize v.drew = v2 at *
      go_wp2_with fail
      go_roundw
      case rel => exact ⟨k + 1, by omega, by go_num, by rw [EU.out], HB3⟩
      case measure => simp [intOf] <;> omega
    · obtain rfl : k = L.length := by omega
      rw [hok.un_all hX]
      have hsc := hok.scX_bd hX
      have bx' := (HB.cell (p := ⟨w.heap.size, 0, none⟩) hz).trans bx.out.c0
      have p1 := (HB.cell (cell_lt P1.out)).trans P1.out
      have p2 := (HB.cell (cell_lt P2.out)).trans P2.out
      obtain ⟨ax2, eax, qx⟩ := (hB'.below HB (Nat.le_refl _)).intN (k := i) (by rw [atL_len]; exact hi)
      injection eax with eax
      subst eax
      rw [atL_nth hi] at qx
      have hp := (hok.arm hi).tree.par
      have hn24 := (hok.arm hi).tree.n2
      go_upto_region 6 with fail
      have hd4 : Below v.heap.size v v.drew := Below.drew (Below.refl _ _)
      have SK4 : Hid (∀ w', Below v.heap.size v w' → w'.cell? ⟨w.heap.size, 0, none⟩ = some (.slice (some ad) L.length c) ∧ w'.cell? (ad.add (i * 3)) = some (.slice A1 (mAt L i).P.length c1) ∧ w'.cell? ⟨(ad.add (i * 3)).block, (ad.add (i * 3)).off + 1, none⟩ = some (.slice A2 (mAt L i).W.length c2) ∧ w'.cell? (ax.add i) = some (.int .i64 (X i : Nat))) := Lib.hid fun w' HV => ⟨(HV.cell (cell_lt bx')).trans bx', (HV.cell (cell_lt p1)).trans p1, (HV.cell (cell_lt p2)).trans p2, (HV.cell (cell_lt qx)).trans qx⟩
      clear bx' p1 p2 qx
      have hS4_0 := SK4.out _ hd4
      refine tamed_region (S := fun w' => w'.cell? ⟨w.heap.size, 0, none⟩ = some (.slice (some ad) L.length c) ∧ w'.cell? (ad.add (i * 3)) = some (.slice A1 (mAt L i).P.length c1) ∧ w'.cell? ⟨(ad.add (i * 3)).block, (ad.add (i * 3)).off + 1, none⟩ = some (.slice A2 (mAt L i).W.length c2) ∧ w'.cell? (ax.add i) = some (.int .i64 (X i : Nat))) (fun _ => false) (by kernel_rfl) ?_
      refine tame0 (k := 0) ?_ rfl (by kernel_rfl) (by kernel_rfl) (by kernel_rfl) (fun _ _ _ h => h) (by kernel_rfl) (fun v => ?_) ?_
      rotate_left
      · (go_simp; all_goals rfl)
      simp only [Act.put, List.setIfInBounds_toArray]
      refine tame (k := 1) ?_ rfl (by kernel_rfl) (by kernel_rfl) (by kernel_rfl) (by kernel_rfl) (fun _ _ _ h => h) (by kernel_rfl) hS4_0 (fun v hv => ?_) ?_
      rotate_left
      · (obtain ⟨k1, k2, k3, k4⟩ := hv; go_simp; all_goals rfl)
      simp only [Act.put]
      refine tame0 (k := 2) ?_ rfl (by kernel_rfl) (by kernel_rfl) (by kernel_rfl) (fun _ _ _ h => h) (by kernel_rfl) (fun v => ?_) ?_
      rotate_left
      · (go_simp; all_goals rfl)
      simp only [Act.put]
      refine tame0 (k := 3) ?_ rfl (by kernel_rfl) (by kernel_rfl) (by kernel_rfl) (fun _ _ _ h => h) (by kernel_rfl) (fun v => ?_) ?_
      rotate_left
      · (go_simp; all_goals rfl)
      simp only [Act.put]
      refine tame0 (k := 4) ?_ rfl (by kernel_rfl) (by kernel_rfl) (by kernel_rfl) (fun _ _ _ h => h) (by kernel_rfl) (fun v => ?_) ?_
      rotate_left
      · (go_simp; all_goals rfl)
      simp only [Act.put]
      refine tame (k := 5) ?_ rfl (by kernel_rfl) (by kernel_rfl) (by kernel_rfl) (by kernel_rfl) (fun _ _ _ h => h) (by kernel_rfl) hS4_0 (fun v hv => ?_) ?_
      rotate_left
      · (obtain ⟨k1, k2, k3, k4⟩ := hv; go_simp; all_goals rfl)
      simp only [Act.put]
      refine tame0 (k := 6) ?_ rfl (by kernel_rfl) (by kernel_rfl) (by kernel_rfl) (fun _ _ _ h => h) (by kernel_rfl) (fun v => ?_) ?_
      rotate_left
      · (go_simp; all_goals rfl)
      simp only [Act.put]
      refine tame0 (k := 7) ?_ rfl (by kernel_rfl) (by kernel_rfl) (by kernel_rfl) (fun _ _ _ h => h) (by kernel_rfl) (fun v => ?_) ?_
      rotate_left
      · (go_simp; all_goals rfl)
      simp only [Act.put]
      refine tame0 (k := 8) ?_ rfl (by kernel_rfl) (by kernel_rfl) (by kernel_rfl) (fun _ _ _ h => h) (by kernel_rfl) (fun v => ?_) ?_
      rotate_left
      · (go_simp; all_goals rfl)
      simp only [Act.put]
      refine tame (k := 9) ?_ rfl (by kernel_rfl) (by kernel_rfl) (by kernel_rfl) (by kernel_rfl) (fun _ _ _ h => h) (by kernel_rfl) hS4_0 (fun v hv => ?_) ?_
      rotate_left
      · (obtain ⟨k1, k2, k3, k4⟩ := hv; go_simp; all_goals rfl)
      simp only [Act.put]
      refine tame0 (k := 11) ?_ rfl (by kernel_rfl) (by kernel_rfl) (by kernel_rfl) (fun _ _ _ h => h) (by kernel_rfl) (fun v => ?_) ?_
      rotate_left
      · (go_simp; all_goals rfl)
      simp only [Act.put]
      refine tame_one (k := 10) (by kernel_rfl) rfl (by kernel_rfl) ?_
      go_simp
      refine (l2Kids_c A1 (mAt L i).P c1 A2 (mAt L i).W.length c2 (X i) _ ((t1.below HB (Nat.le_refl _)).drew) hp hxi hn24).mono ?_
      rintro e u3 ⟨A4, c4, rfl, o4, b3⟩
      have hd4_1 := bUp hd4 b3 (Nat.le_refl _)
      have hS4_1 := Lib.hid (SK4.out _ hd4_1)
      refine ⟨by first | exact hS4_1 | exact Hid.out hS4_1, ?_⟩
      refine tame_one (k := 12) (by kernel_rfl) rfl (by kernel_rfl) ?_
      go_simp
      refine (l1OwnAt_c (some ax) L.length X cb u3 (hB'.below (bUp HB hd4_1 HB.size) (Nat.le_refl _)) (by omega)).mono ?_
      rintro e u4 ⟨A5, c5, rfl, o5, b4⟩
      have hd4_2 := bUp hd4_1 b4 hd4_1.size
      have hS4_2 := Lib.hid (SK4.out _ hd4_2)
      refine ⟨by first | exact hS4_2 | exact Hid.out hS4_2, ?_⟩
      refine tame_one (k := 13) (by kernel_rfl) rfl (by kernel_rfl) ?_
      go_simp
      refine ⟨by first | exact hS4_2 | exact Hid.out hS4_2, ?_⟩
      refine tame_one (k := 14) (by kernel_rfl) rfl (by kernel_rfl) ?_
      go_simp
      refine ⟨by first | exact hS4_2 | exact Hid.out hS4_2, ?_⟩
      refine tame_end (by kernel_rfl) ?_
      have HB3 : Below u.heap.size u u3 := bUp HB hd4_1 HB.size
      have HB4 : Below u3.heap.size u3 u4 := b4
      have h3 := h'.below HB3 (Nat.le_refl _)
      have hV3 := hV'.below HB3 (Nat.le_refl _)
      have bx3 := Lib.hid (bx.out.keep fun q hq => HB3.cell hq)
      have hz3 : w.heap.size < u3.heap.size := Nat.lt_of_lt_of_le hz HB3.size
      have o6 : Own u4 u3.heap.size A5 c5 (atL L.length (updX X i (X i))) := by rw [updX_same]; exact o5
      obtain ⟨gN, rfl, hg1, hg2⟩ := o6.form (by rw [atL_len]; omega)
      have k4 := o4.rd
      have hkl9 : (kids (mAt L i).P (X i : Nat)).length ≤ 9 := by
        have := kidTo_len (mAt L i).P (X i : Nat) (mAt L i).P.length
        have := (hok.arm hi).n9
        unfold kids
        omega
      generalize hkl : (kids (mAt L i).P (X i : Nat)).length = kl at *
      have L1 := Lib.hid hkl
      clear hkl o5 o4 b3 b4 HB SK4 hS4_0 hS4_1 hS4_2 hd4 hd4_1 hd4_2 h' hB' hU' hV' P1 P2 t1 bx
      go_wp2_with fail
      go_loopw [9, 13] (fun q j wr => ∃ (k : Nat) (z : Nat), k ≤ kl ∧ j = .int .i64 (k : Int) ∧ q = .int .i64 (aftT L a b (valX L a b pl) X i k) ∧ Own wr u3.heap.size (some ⟨gN, 0, none⟩) c5 (atL L.length (updX X i z)) ∧ Below u3.heap.size u3 wr) (fun _ j _ => kl - (intOf j).toNat)
      case atStart => exact ⟨0, X i, by omega, rfl, by simp [aftT, kS], o6, HB4⟩
      case round =>
        clear o6 HB4
        obtain ⟨v, rfl⟩ : ∃ v : World, v = wr := ⟨_, rfl⟩
        obtain ⟨k, z, hk, rfl, rfl, o, HB⟩ := hrel
        by_cases hlt : k < kl
        · obtain ⟨a4, rfl, qk⟩ := (k4.below HB (Nat.le_refl _)).intN (k := k) (by rw [L1.out]; exact hlt)
          obtain ⟨y, ey, hy1, hy2⟩ : ∃ y : Nat, nth (kids (mAt L i).P (X i : Nat)) k = (y : Int) ∧ y < (mAt L i).P.length ∧ nth (mAt L i).P y = (X i : Nat) := by
            obtain ⟨y, h1, _, h2, h3⟩ := kid_at (hok.arm hi).tree.par (show k < (kids (mAt L i).P (X i : Nat)).length by rw [L1.out]; exact hlt)
            exact ⟨y, h1, h2, h3⟩
          rw [ey] at qk
          obtain ⟨u0, hco⟩ := o.some_ (k := i) (by rw [atL_len]; exact hi)
          have hfo := o.frozen i
          have hst := (o.set i (y : Int)).1
          rw [atL_set] at hst
          have HBs := HB.setCell (p := ⟨gN, i, none⟩) hg1 (.int .i64 (y : Int))
          go_upto_region 11 with fail
          generalize v.setCell ⟨gN, i, none⟩ (.int .i64 (y : Int)) = v2 at *
          have hVk := HVV.out y hy1 hy2
          have hXy := hok.upd hX hi hy1
          have he := hok.enc_lt hXy L.length (Nat.le_refl _)
          obtain ⟨av, eav, qv⟩ := (hV3.below HBs (Nat.le_refl _)).intN (k := encN L (updX X i y) L.length) (by rw [hlv.out]; exact he)
          rw [hVk] at qv
          have f0 := (HBs.cell (p := ⟨w.heap.size, 0, none⟩) hz3).trans bx3.out.c0
          have f1 := (HBs.cell (p := ⟨w.heap.size, 1, none⟩) hz3).trans bx3.out.c1
          have f2 := (HBs.cell (p := ⟨w.heap.size, 2, none⟩) hz3).trans bx3.out.c2
          have f3 := (HBs.cell (p := ⟨w.heap.size, 3, none⟩) hz3).trans bx3.out.c3
          have f4 := (HBs.cell (p := ⟨w.heap.size, 4, none⟩) hz3).trans bx3.out.c4
          have hva := valX_bd hok hpl hXy
          have hab := hok.ab
          have ha1 := hok.a1
          have hb4 := hok.b4
          have hmul := mulAbs (x := valX L a b pl (updX X i y)) (y := a) (A := 6457751764992000) (B := 3) hva ⟨by omega, by omega⟩ (by decide)
          rw [Int.mul_comm (valX L a b pl (updX X i y)) a] at hmul
          have ht2 := aftT_bd hok hpl hX hi (k := k + 1) (by rw [L1.out]; omega)
          have ek := aftT_next L a b (valX L a b pl) X i k y ey
          have hwa : IntKind.i64.wrap (a * valX L a b pl (updX X i y)) = a * valX L a b pl (updX X i y) := IntWalk.i64_in _ (by omega)
          have hwb : IntKind.i64.wrap (aftT L a b (valX L a b pl) X i k + a * valX L a b pl (updX X i y)) = aftT L a b (valX L a b pl) X i k + a * valX L a b pl (updX X i y) := IntWalk.i64_in _ (by rw [← ek]; omega)
          have EK := Lib.hid ek
          have C := Lib.hid (l8Code_c hok hXy (some ad) c AU cU AN cN (some ⟨gN, 0, none⟩) c5 v2.drew ((h3.below HBs (Nat.le_refl _)).drewN 1) hst.rd.drew)
          subst eav
          unfold gmV at C
          clear ek hmul hva ht2 hab ha1 hb4 hVk o hco hfo qk
          generalize aftT L a b (valX L a b pl) X i k = acc at *
          generalize valX L a b pl (updX X i y) = vv at *
          generalize encN L (updX X i y) L.length = e at *
          have hd5 : Below v2.heap.size v2 v2.drew := Below.drew (Below.refl _ _)
          have SK5 : Hid (∀ w', Below v2.heap.size v2 w' → w'.cell? ⟨w.heap.size, 0, none⟩ = some (.slice (some ad) L.length c) ∧ w'.cell? ⟨w.heap.size, 1, none⟩ = some (.slice AU L.length cU) ∧ w'.cell? ⟨w.heap.size, 2, none⟩ = some (.slice AN L.length cN) ∧ w'.cell? ⟨w.heap.size, 3, none⟩ = some (.int .i64 a) ∧ w'.cell? ⟨w.heap.size, 4, none⟩ = some (.int .i64 b) ∧ w'.cell? (av.add e) = some (.int .i64 vv)) := Lib.hid fun w' HV => ⟨(HV.cell (cell_lt f0)).trans f0, (HV.cell (cell_lt f1)).trans f1, (HV.cell (cell_lt f2)).trans f2, (HV.cell (cell_lt f3)).trans f3, (HV.cell (cell_lt f4)).trans f4, (HV.cell (cell_lt qv)).trans qv⟩
          clear f0 f1 f2 f3 f4 qv
          have hS5_0 := SK5.out _ hd5
          refine tamed_region (S := fun w' => w'.cell? ⟨w.heap.size, 0, none⟩ = some (.slice (some ad) L.length c) ∧ w'.cell? ⟨w.heap.size, 1, none⟩ = some (.slice AU L.length cU) ∧ w'.cell? ⟨w.heap.size, 2, none⟩ = some (.slice AN L.length cN) ∧ w'.cell? ⟨w.heap.size, 3, none⟩ = some (.int .i64 a) ∧ w'.cell? ⟨w.heap.size, 4, none⟩ = some (.int .i64 b) ∧ w'.cell? (av.add e) = some (.int .i64 vv)) (fun _ => false) (by kernel_rfl) ?_
          refine tame0 (k := 0) ?_ rfl (by kernel_rfl) (by kernel_rfl) (by kernel_rfl) (fun _ _ _ h => h) (by kernel_rfl) (fun v => ?_) ?_
          rotate_left
          · (go_simp; all_goals rfl)
          simp only [Act.put, List.setIfInBounds_toArray]
          refine tame0 (k := 1) ?_ rfl (by kernel_rfl) (by kernel_rfl) (by kernel_rfl) (fun _ _ _ h => h) (by kernel_rfl) (fun v => ?_) ?_
          rotate_left
          · (go_simp; all_goals rfl)
          simp only [Act.put]
          refine tame (k := 2) ?_ rfl (by kernel_rfl) (by kernel_rfl) (by kernel_rfl) (by kernel_rfl) (fun _ _ _ h => h) (by kernel_rfl) hS5_0 (fun v hv => ?_) ?_
          rotate_left
          · (obtain ⟨k1, k2, k3, k4, k5, k6⟩ := hv; go_simp; all_goals rfl)
          simp only [Act.put]
          refine tame0 (k := 3) ?_ rfl (by kernel_rfl) (by kernel_rfl) (by kernel_rfl) (fun _ _ _ h => h) (by kernel_rfl) (fun v => ?_) ?_
          rotate_left
          · (go_simp; all_goals rfl)
          simp only [Act.put]
          refine tame (k := 4) ?_ rfl (by kernel_rfl) (by kernel_rfl) (by kernel_rfl) (by kernel_rfl) (fun _ _ _ h => h) (by kernel_rfl) hS5_0 (fun v hv => ?_) ?_
          rotate_left
          · (obtain ⟨k1, k2, k3, k4, k5, k6⟩ := hv; go_simp; all_goals rfl)
          simp only [Act.put]
          refine tame0 (k := 5) ?_ rfl (by kernel_rfl) (by kernel_rfl) (by kernel_rfl) (fun _ _ _ h => h) (by kernel_rfl) (fun v => ?_) ?_
          rotate_left
          · (go_simp; all_goals rfl)
          simp only [Act.put]
          refine tame_one (k := 6) (by kernel_rfl) rfl (by kernel_rfl) ?_
          go_simp
          refine (C.out).mono ?_
          rintro e9 v3 ⟨rfl, b9⟩
          have hd5_1 := bUp hd5 b9 (Nat.le_refl _)
          have hS5_1 := Lib.hid (SK5.out _ hd5_1)
          refine ⟨by first | exact hS5_1 | exact Hid.out hS5_1, ?_⟩
          refine tame0 (k := 7) ?_ rfl (by kernel_rfl) (by kernel_rfl) (by kernel_rfl) (fun _ _ _ h => h) (by kernel_rfl) (fun v => ?_) ?_
          rotate_left
          · (go_simp; all_goals rfl)
          simp only [Act.put]
          have hS5_1o := Hid.out hS5_1
          refine tame (k := 8) ?_ rfl (by kernel_rfl) (by kernel_rfl) (by kernel_rfl) (by kernel_rfl) (fun _ _ _ h => h) (by kernel_rfl) hS5_1o (fun v hv => ?_) ?_
          rotate_left
          · (obtain ⟨k1, k2, k3, k4, k5, k6⟩ := hv; go_simp; all_goals rfl)
          simp only [Act.put]
          refine tame0 (k := 9) ?_ rfl (by kernel_rfl) (by kernel_rfl) (by kernel_rfl) (fun _ _ _ h => h) (by kernel_rfl) (fun v => ?_) ?_
          rotate_left
          · (go_simp; all_goals rfl)
          simp only [Act.put]
          refine tame0 (k := 10) ?_ rfl (by kernel_rfl) (by kernel_rfl) (by kernel_rfl) (fun _ _ _ h => h) (by kernel_rfl) (fun v => ?_) ?_
          rotate_left
          · (go_simp; all_goals rfl)
          simp only [Act.put]
          have hS5_1ov := Lib.hid hS5_1o
          clear hS5_1o
          refine tame_one (k := 11) (by kernel_rfl) rfl (by kernel_rfl) ?_
          go_simp
          refine ⟨by first | exact hS5_1ov | exact Hid.out hS5_1ov, ?_⟩
          refine tame_end (by kernel_rfl) ?_
          have HB9 : Below u3.heap.size u3 v3 := bUp HBs hd5_1 HBs.size
          have hst9 := hst.below hd5_1
          clear hwa hwb
          go_wp2_with fail
          go_roundw
          case rel => exact ⟨k + 1, y, by omega, by go_num, by rw [EK.out], hst9, HB9⟩
          case measure => simp [intOf] <;> omega
        · obtain rfl : k = kl := by omega
          go_wp2_with fail
          go_ret
          have HBu := bUp HB1 HB3 HB1.size
          refine ⟨?_, bUp HBu HB HBu.size⟩
          unfold aft
          rw [L1.out]
          rfl

/-- The values of all later codes are in the list. -/
def ValsOk (L : List Mkd) (a b : Int) (pl : Option ((Nat → Nat) → Int)) (X : Nat → Nat) (vals : List Int) : Prop := ∀ i y, i < L.length → y < (mAt L i).P.length → nth (mAt L i).P y = (X i : Nat) → nth vals (encN L (updX X i y) L.length) = valX L a b pl (updX X i y)
theorem can_w {L : List Mkd} {a b : Int} (hok : ArmsOk L a b) {X : Nat → Nat} (hX : AtOk L X) {k : Nat} (hk : k < L.length) {q : Bool} (hq : canX L X k = q) : (nth (mAt L k).W (X k) == 0) = q := by
  have hw := (hok.arm hk).tree.wt (X k) (hX k hk)
  rw [← hq]
  unfold canX
  cases he : endB (mAt L k).P (X k)
  · rw [he] at hw
    simp at hw
    simp [hw]
  · rw [he] at hw
    simp at hw
    simp
    omega
theorem besTo_yes' {L : List Mkd} {a b : Int} {V : (Nat → Nat) → Int} {X : Nat → Nat} {k : Nat} (h : canX L X k = true) : besTo L a b V X (k + 1) = mxI (besTo L a b V X k) (aft L a b V X k) := by rw [besTo, if_pos h]
theorem besTo_no' {L : List Mkd} {a b : Int} {V : (Nat → Nat) → Int} {X : Nat → Nat} {k : Nat} (h : canX L X k = false) : besTo L a b V X (k + 1) = besTo L a b V X k := by rw [besTo, if_neg (by rw [h]; decide)]
set_option maxRecDepth 20000 in
set_option maxHeartbeats 4000000 in
theorem l8ValueB_c {L : List Mkd} {a b : Int} (hok : ArmsOk L a b) (hpl : PlOk L none) {X : Nat → Nat} (hX : AtOk L X) (A : Option Addr) (c : Nat) (AU : Option Addr) (cU : Nat) (AN : Option Addr) (cN : Nat) (VB : Option Addr) (cv : Nat) (vals : List Int) (B : Option Addr) (cb : Nat) (w : World)
    (h : RdMs w A L) (hU : RdSS w AU (unR L b)) (hV : Rd w VB (ints vals)) (hvl : vals.length = szN L L.length) (hB : Rd w B (ints (atL L.length X))) (hvals : ValsOk L a b none X vals) :
    Calls Try.prog 123 #[gmV A c AU cU AN cN L.length a b, .slice VB (szN L L.length) cv, .slice B L.length cb, .int .i64 0] w (Quietly w (.int .i64 (valX L a b none X))) := by
  have HVV := Lib.hid hvals
  have hv0 : valX L a b none X = besTo L a b (valX L a b none) X L.length := valX_eq hok hpl hX
  rw [hv0]
  clear hv0
  unfold gmV
  have HB1 : Below w.heap.size w (w.alloc (.cells #[.slice A L.length c, .slice AU L.length cU, .slice AN L.length cN, .int .i64 a, .int .i64 b] 101)) := (Below.refl _ _).alloc (Nat.le_refl _) _
  have bx := Lib.hid (Bx5.new w (.slice A L.length c) (.slice AU L.length cU) (.slice AN L.length cN) (.int .i64 a) (.int .i64 b) 101)
  have hz : w.heap.size < (w.alloc (.cells #[.slice A L.length c, .slice AU L.length cU, .slice AN L.length cN, .int .i64 a, .int .i64 b] 101)).heap.size := by simp
  have h' := h.below HB1 (Nat.le_refl _)
  have hB' := hB.below HB1 (Nat.le_refl _)
  have hU' := hU.below HB1 (Nat.le_refl _)
  have hV' := hV.below HB1 (Nat.le_refl _)
  have hn3 := hok.n3
  have hlv := Lib.hid hvl
  clear h hB hU hV hvals hvl
  go_enter Try.func123, Try.ntmps123
  go_wp2_with fail
  generalize w.alloc (.cells #[.slice A L.length c, .slice AU L.length cU, .slice AN L.length cN, .int .i64 a, .int .i64 b] 101) = u at *
  go_loopw [9, 10] (fun q j wr => ∃ k : Nat, k ≤ L.length ∧ j = .int .i64 (k : Int) ∧ q = .int .i64 (besTo L a b (valX L a b none) X k) ∧ Below u.heap.size u wr) (fun _ j _ => L.length - (intOf j).toNat)
  case atStart => exact ⟨0, by omega, rfl, rfl, Below.refl _ _⟩
  case round =>
    obtain ⟨v, rfl⟩ : ∃ v : World, v = wr := ⟨_, rfl⟩
    obtain ⟨k, hk, rfl, rfl, HB⟩ := hrel
    by_cases hlt : k < L.length
    · obtain ⟨ad, A1, c1, A2, c2, A3, c3, rfl, p1, p2, p3, _, t2, _⟩ := (h'.below HB (Nat.le_refl _)) k hlt
      have hwl := (hok.arm hlt).tree.len
      have hxk := hX k hlt
      obtain ⟨aw, rfl, qw⟩ := t2.intN (k := X k) (by omega)
      have p2' := cellOff 1 (by omega) p2
      rw [hwl] at p2'
      obtain ⟨ax, rfl, qx⟩ := (hB'.below HB (Nat.le_refl _)).intN (k := k) (by rw [atL_len]; exact hlt)
      rw [atL_nth hlt] at qx
      have bx' := (HB.cell (p := ⟨w.heap.size, 0, none⟩) hz).trans bx.out.c0
      clear p1 p2 p3 t2 hwl
      cases hc : canX L X k
      · have e1 := can_w hok hX hlt hc
        have HN := Lib.hid (besTo_no' (a := a) (b := b) (V := valX L a b none) hc)
        clear hc
        go_upto_region 6 with fail
        have hd1 : Below v.heap.size v v.drew := Below.drew (Below.refl _ _)
        have SK1 : Hid (∀ w', Below v.heap.size v w' → w'.cell? ⟨w.heap.size, 0, none⟩ = some (.slice (some ad) L.length c) ∧ w'.cell? ⟨(ad.add (k * 3)).block, (ad.add (k * 3)).off + 1, none⟩ = some (.slice (some aw) (mAt L k).P.length c2) ∧ w'.cell? (ax.add k) = some (.int .i64 (X k : Nat)) ∧ w'.cell? (aw.add (X k)) = some (.int .i64 (nth (mAt L k).W (X k)))) := Lib.hid fun w' HV => ⟨(HV.cell (cell_lt bx')).trans bx', (HV.cell (cell_lt p2')).trans p2', (HV.cell (cell_lt qx)).trans qx, (HV.cell (cell_lt qw)).trans qw⟩
        clear bx' p2' qx qw
        have hS1_0 := SK1.out _ hd1
        refine tamed_region (S := fun w' => w'.cell? ⟨w.heap.size, 0, none⟩ = some (.slice (some ad) L.length c) ∧ w'.cell? ⟨(ad.add (k * 3)).block, (ad.add (k * 3)).off + 1, none⟩ = some (.slice (some aw) (mAt L k).P.length c2) ∧ w'.cell? (ax.add k) = some (.int .i64 (X k : Nat)) ∧ w'.cell? (aw.add (X k)) = some (.int .i64 (nth (mAt L k).W (X k)))) (fun _ => false) (by kernel_rfl) ?_
        refine tame0 (k := 0) ?_ rfl (by kernel_rfl) (by kernel_rfl) (by kernel_rfl) (fun _ _ _ h => h) (by kernel_rfl) (fun v => ?_) ?_
        rotate_left
        · (go_simp; all_goals rfl)
        simp only [Act.put, List.setIfInBounds_toArray]
        refine tame (k := 1) ?_ rfl (by kernel_rfl) (by kernel_rfl) (by kernel_rfl) (by kernel_rfl) (fun _ _ _ h => h) (by kernel_rfl) hS1_0 (fun v hv => ?_) ?_
        rotate_left
        · (obtain ⟨k1, k2, k3, k4⟩ := hv; go_simp; all_goals rfl)
        simp only [Act.put]
        refine tame0 (k := 2) ?_ rfl (by kernel_rfl) (by kernel_rfl) (by kernel_rfl) (fun _ _ _ h => h) (by kernel_rfl) (fun v => ?_) ?_
        rotate_left
        · (go_simp; all_goals rfl)
        simp only [Act.put]
        refine tame0 (k := 3) ?_ rfl (by kernel_rfl) (by kernel_rfl) (by kernel_rfl) (fun _ _ _ h => h) (by kernel_rfl) (fun v => ?_) ?_
        rotate_left
        · (go_simp; all_goals rfl)
        simp only [Act.put]
        refine tame0 (k := 4) ?_ rfl (by kernel_rfl) (by kernel_rfl) (by kernel_rfl) (fun _ _ _ h => h) (by kernel_rfl) (fun v => ?_) ?_
        rotate_left
        · (go_simp; all_goals rfl)
        simp only [Act.put]
        refine tame0 (k := 5) ?_ rfl (by kernel_rfl) (by kernel_rfl) (by kernel_rfl) (fun _ _ _ h => h) (by kernel_rfl) (fun v => ?_) ?_
        rotate_left
        · (go_simp; all_goals rfl)
        simp only [Act.put]
        refine tame (k := 6) ?_ rfl (by kernel_rfl) (by kernel_rfl) (by kernel_rfl) (by kernel_rfl) (fun _ _ _ h => h) (by kernel_rfl) hS1_0 (fun v hv => ?_) ?_
        rotate_left
        · (obtain ⟨k1, k2, k3, k4⟩ := hv; go_simp; all_goals rfl)
        simp only [Act.put]
        refine tame0 (k := 7) ?_ rfl (by kernel_rfl) (by kernel_rfl) (by kernel_rfl) (fun _ _ _ h => h) (by kernel_rfl) (fun v => ?_) ?_
        rotate_left
        · (go_simp; all_goals rfl)
        simp only [Act.put]
        refine tame0 (k := 8) ?_ rfl (by kernel_rfl) (by kernel_rfl) (by kernel_rfl) (fun _ _ _ h => h) (by kernel_rfl) (fun v => ?_) ?_
        rotate_left
        · (go_simp; all_goals rfl)
        simp only [Act.put]
        refine tame0 (k := 9) ?_ rfl (by kernel_rfl) (by kernel_rfl) (by kernel_rfl) (fun _ _ _ h => h) (by kernel_rfl) (fun v => ?_) ?_
        rotate_left
        · (go_simp; all_goals rfl)
        simp only [Act.put]
        refine tame (k := 10) ?_ rfl (by kernel_rfl) (by kernel_rfl) (by kernel_rfl) (by kernel_rfl) (fun _ _ _ h => h) (by kernel_rfl) hS1_0 (fun v hv => ?_) ?_
        rotate_left
        · (obtain ⟨k1, k2, k3, k4⟩ := hv; go_simp; all_goals rfl)
        simp only [Act.put]
        refine tame0 (k := 11) ?_ rfl (by kernel_rfl) (by kernel_rfl) (by kernel_rfl) (fun _ _ _ h => h) (by kernel_rfl) (fun v => ?_) ?_
        rotate_left
        · (go_simp; all_goals rfl)
        simp only [Act.put]
        refine tame (k := 12) ?_ rfl (by kernel_rfl) (by kernel_rfl) (by kernel_rfl) (by kernel_rfl) (fun _ _ _ h => h) (by kernel_rfl) hS1_0 (fun v hv => ?_) ?_
        rotate_left
        · (obtain ⟨k1, k2, k3, k4⟩ := hv; go_simp; all_goals rfl)
        simp only [Act.put]
        have hS1_0v := Lib.hid hS1_0
        clear hS1_0
        refine tame_one (k := 13) (by kernel_rfl) rfl (by kernel_rfl) ?_
        go_simp
        refine ⟨by first | exact hS1_0v | exact Hid.out hS1_0v, ?_⟩
        refine tame_end (by kernel_rfl) ?_
        have HB3 : Below u.heap.size u v.drew := Below.drew HB
        generalize v.drew = v2 at *
        go_wp2_with fail
        go_roundw
        case rel => exact ⟨k + 1, by omega, by go_num, by rw [HN.out], HB3⟩
        case measure => simp [intOf] <;> omega
      · have e1 := can_w hok hX hlt hc
        have HN := Lib.hid (besTo_yes' (a := a) (b := b) (V := valX L a b none) hc)
        clear hc
        go_upto_region 6 with fail
        have hd2 : Below v.heap.size v v.drew := Below.drew (Below.refl _ _)
        have SK2 : Hid (∀ w', Below v.heap.size v w' → w'.cell? ⟨w.heap.size, 0, none⟩ = some (.slice (some ad) L.length c) ∧ w'.cell? ⟨(ad.add (k * 3)).block, (ad.add (k * 3)).off + 1, none⟩ = some (.slice (some aw) (mAt L k).P.length c2) ∧ w'.cell? (ax.add k) = some (.int .i64 (X k : Nat)) ∧ w'.cell? (aw.add (X k)) = some (.int .i64 (nth (mAt L k).W (X k)))) := Lib.hid fun w' HV => ⟨(HV.cell (cell_lt bx')).trans bx', (HV.cell (cell_lt p2')).trans p2', (HV.cell (cell_lt qx)).trans qx, (HV.cell (cell_lt qw)).trans qw⟩
        clear bx' p2' qx qw
        have hS2_0 := SK2.out _ hd2
        refine tamed_region (S := fun w' => w'.cell? ⟨w.heap.size, 0, none⟩ = some (.slice (some ad) L.length c) ∧ w'.cell? ⟨(ad.add (k * 3)).block, (ad.add (k * 3)).off + 1, none⟩ = some (.slice (some aw) (mAt L k).P.length c2) ∧ w'.cell? (ax.add k) = some (.int .i64 (X k : Nat)) ∧ w'.cell? (aw.add (X k)) = some (.int .i64 (nth (mAt L k).W (X k)))) (fun _ => false) (by kernel_rfl) ?_
        refine tame0 (k := 0) ?_ rfl (by kernel_rfl) (by kernel_rfl) (by kernel_rfl) (fun _ _ _ h => h) (by kernel_rfl) (fun v => ?_) ?_
        rotate_left
        · (go_simp; all_goals rfl)
        simp only [Act.put, List.setIfInBounds_toArray]
        refine tame (k := 1) ?_ rfl (by kernel_rfl) (by kernel_rfl) (by kernel_rfl) (by kernel_rfl) (fun _ _ _ h => h) (by kernel_rfl) hS2_0 (fun v hv => ?_) ?_
        rotate_left
        · (obtain ⟨k1, k2, k3, k4⟩ := hv; go_simp; all_goals rfl)
        simp only [Act.put]
        refine tame0 (k := 2) ?_ rfl (by kernel_rfl) (by kernel_rfl) (by kernel_rfl) (fun _ _ _ h => h) (by kernel_rfl) (fun v => ?_) ?_
        rotate_left
        · (go_simp; all_goals rfl)
        simp only [Act.put]
        refine tame0 (k := 3) ?_ rfl (by kernel_rfl) (by kernel_rfl) (by kernel_rfl) (fun _ _ _ h => h) (by kernel_rfl) (fun v => ?_) ?_
        rotate_left
        · (go_simp; all_goals rfl)
        simp only [Act.put]
        refine tame0 (k := 4) ?_ rfl (by kernel_rfl) (by kernel_rfl) (by kernel_rfl) (fun _ _ _ h => h) (by kernel_rfl) (fun v => ?_) ?_
        rotate_left
        · (go_simp; all_goals rfl)
        simp only [Act.put]
        refine tame0 (k := 5) ?_ rfl (by kernel_rfl) (by kernel_rfl) (by kernel_rfl) (fun _ _ _ h => h) (by kernel_rfl) (fun v => ?_) ?_
        rotate_left
        · (go_simp; all_goals rfl)
        simp only [Act.put]
        refine tame (k := 6) ?_ rfl (by kernel_rfl) (by kernel_rfl) (by kernel_rfl) (by kernel_rfl) (fun _ _ _ h => h) (by kernel_rfl) hS2_0 (fun v hv => ?_) ?_
        rotate_left
        · (obtain ⟨k1, k2, k3, k4⟩ := hv; go_simp; all_goals rfl)
        simp only [Act.put]
        refine tame0 (k := 7) ?_ rfl (by kernel_rfl) (by kernel_rfl) (by kernel_rfl) (fun _ _ _ h => h) (by kernel_rfl) (fun v => ?_) ?_
        rotate_left
        · (go_simp; all_goals rfl)
        simp only [Act.put]
        refine tame0 (k := 8) ?_ rfl (by kernel_rfl) (by kernel_rfl) (by kernel_rfl) (fun _ _ _ h => h) (by kernel_rfl) (fun v => ?_) ?_
        rotate_left
        · (go_simp; all_goals rfl)
        simp only [Act.put]
        refine tame0 (k := 9) ?_ rfl (by kernel_rfl) (by kernel_rfl) (by kernel_rfl) (fun _ _ _ h => h) (by kernel_rfl) (fun v => ?_) ?_
        rotate_left
        · (go_simp; all_goals rfl)
        simp only [Act.put]
        refine tame (k := 10) ?_ rfl (by kernel_rfl) (by kernel_rfl) (by kernel_rfl) (by kernel_rfl) (fun _ _ _ h => h) (by kernel_rfl) hS2_0 (fun v hv => ?_) ?_
        rotate_left
        · (obtain ⟨k1, k2, k3, k4⟩ := hv; go_simp; all_goals rfl)
        simp only [Act.put]
        refine tame0 (k := 11) ?_ rfl (by kernel_rfl) (by kernel_rfl) (by kernel_rfl) (fun _ _ _ h => h) (by kernel_rfl) (fun v => ?_) ?_
        rotate_left
        · (go_simp; all_goals rfl)
        simp only [Act.put]
        refine tame (k := 12) ?_ rfl (by kernel_rfl) (by kernel_rfl) (by kernel_rfl) (by kernel_rfl) (fun _ _ _ h => h) (by kernel_rfl) hS2_0 (fun v hv => ?_) ?_
        rotate_left
        · (obtain ⟨k1, k2, k3, k4⟩ := hv; go_simp; all_goals rfl)
        simp only [Act.put]
        have hS2_0v := Lib.hid hS2_0
        clear hS2_0
        refine tame_one (k := 13) (by kernel_rfl) rfl (by kernel_rfl) ?_
        go_simp
        refine ⟨by first | exact hS2_0v | exact Hid.out hS2_0v, ?_⟩
        refine tame_end (by kernel_rfl) ?_
        have HB3 : Below u.heap.size u v.drew := Below.drew HB
        generalize v.drew = v2 at *
        have C := l8After_c hok hpl hX hlt (some ad) c AU cU AN cN VB cv vals (some ax) cb v2 (h'.below HB3 (Nat.le_refl _)) (hU'.below HB3 (Nat.le_refl _)) (hV'.below HB3 (Nat.le_refl _)) hlv.out (hB'.below HB3 (Nat.le_refl _)) (fun y h1 h2 => HVV.out k y hlt h1 h2)
        unfold gmV at C
        have f0 := (HB3.cell (p := ⟨w.heap.size, 0, none⟩) hz).trans bx.out.c0
        have f1 := (HB3.cell (p := ⟨w.heap.size, 1, none⟩) hz).trans bx.out.c1
        have f2 := (HB3.cell (p := ⟨w.heap.size, 2, none⟩) hz).trans bx.out.c2
        have f3 := (HB3.cell (p := ⟨w.heap.size, 3, none⟩) hz).trans bx.out.c3
        have f4 := (HB3.cell (p := ⟨w.heap.size, 4, none⟩) hz).trans bx.out.c4
        go_wp2_with fail
        refine C.mono ?_
        rintro e v3 ⟨rfl, b3⟩
        clear C f0 f1 f2 f3 f4
        have HB4 := bUp HB3 b3 HB3.size
        clear b3
        go_wp2_with fail
        refine (l1Most_c _ _ _).mono ?_
        rintro e v4 ⟨rfl, rfl⟩
        go_wp2_with fail
        go_roundw
        case rel => exact ⟨k + 1, by omega, by go_num, by rw [HN.out], HB4⟩
        case measure => simp [intOf] <;> omega
    · obtain rfl : k = L.length := by omega
      go_wp2_with fail
      go_ret
      exact ⟨rfl, bUp HB1 HB HB1.size⟩

/-- l8Value's contract for one way of playing. -/
def ValuC (L : List Mkd) (a b way : Int) (pl : Option ((Nat → Nat) → Int)) (A : Option Addr) (c : Nat) (AU : Option Addr) (cU : Nat) (AN : Option Addr) (cN : Nat) (w0 : World) : Prop := ∀ (X : Nat → Nat) (VB : Option Addr) (cv : Nat) (vals : List Int) (B : Option Addr) (cb : Nat) (w : World),
  AtOk L X → Below w0.heap.size w0 w → Rd w VB (ints vals) → vals.length = szN L L.length → Rd w B (ints (atL L.length X)) → ValsOk L a b pl X vals →
  Calls Try.prog 123 #[gmV A c AU cU AN cN L.length a b, .slice VB (szN L L.length) cv, .slice B L.length cb, .int .i64 way] w (Quietly w (.int .i64 (valX L a b pl X)))
/-- While places are taken out of a code: the last j of n. -/
def atJ (L : List Mkd) (n c j : Nat) : List Int := (List.range n).map fun k => if n ≤ k + j then (decN L n c k : Int) else 0
theorem atJ_len (L : List Mkd) (n c j : Nat) : (atJ L n c j).length = n := by simp [atJ]
theorem atJ_zero (L : List Mkd) (n c : Nat) : atJ L n c 0 = List.replicate n 0 := by
  apply List.ext_getElem
  · simp [atJ]
  · intro k h1 h2
    simp [atJ] at h1 ⊢
    omega
theorem atJ_all (L : List Mkd) (n c : Nat) : atJ L n c n = atL n (decN L n c) := by
  apply List.ext_getElem
  · simp [atJ, atL]
  · intro k h1 h2
    simp [atJ, atL]
theorem atJ_next {L : List Mkd} {n c j : Nat} (hj : j < n) : (atJ L n c j).set (n - 1 - j) ((restN L n c j % fLen L (n - 1 - j) : Nat) : Int) = atJ L n c (j + 1) := by
  have hd : decN L n c (n - 1 - j) = restN L n c j % fLen L (n - 1 - j) := by
    unfold decN
    rw [if_pos (by omega), show n - 1 - (n - 1 - j) = j by omega]
  apply List.ext_getElem
  · simp [atJ]
  · intro k h1 h2
    simp only [List.getElem_set, atJ, List.getElem_map, List.getElem_range]
    rcases Decidable.em (n - 1 - j = k) with rfl | hne
    · rw [if_pos rfl, if_pos (by omega), hd]
    · rw [if_neg hne]
      by_cases h : n ≤ k + j
      · rw [if_pos h, if_pos (by omega)]
      · rw [if_neg h, if_neg (by omega)]
theorem w64_729 {q : Nat} (h : q < 729) : wrap64 (q : Int) = (q : Int) := IntWalk.wrap64_in _ ⟨by omega, by omega⟩
theorem div_fl {r fl q : Nat} (h : r / fl < 729) (e : q = r / fl) : wrap64 ((r : Int) / (fl : Int)) = (q : Int) := by
  have e2 : (r : Int) / (fl : Int) = (q : Int) := by rw [e]; rfl
  rw [e2]
  exact w64_729 (by rw [e]; exact h)
theorem i64_729 {q : Nat} (h : q < 729) : IntKind.i64.wrap (q : Int) = (q : Int) := IntWalk.i64_in _ ⟨by omega, by omega⟩
theorem valsOk_of {L : List Mkd} {a b : Int} {pl : Option ((Nat → Nat) → Int)} (hok : ArmsOk L a b) {c : Nat} (hc : c < szN L L.length) {vals : List Int} (hv : ∀ c', c < c' → c' < szN L L.length → nth vals c' = valX L a b pl (decN L L.length c')) : ValsOk L a b pl (decN L L.length c) vals := by
  intro i y hi hy hk
  have hX := hok.dec_ok c
  have hXy := hok.upd hX hi hy
  have hlt : decN L L.length c i < y := by
    have hp := (hok.arm hi).tree.par
    have hy1 : 1 ≤ y := by
      rcases Nat.eq_zero_or_pos y with rfl | h'
      · have := hp.zero
        omega
      · exact h'
    have := hp.up y hy1 hy
    omega
  have h1 := (encN_upd (X := decN L L.length c) L hlt L.length).2 hi fun j hj => (hok.fl hj).2.1
  have h2 := hok.enc_dec hc L.length (Nat.le_refl _)
  rw [Nat.sub_self] at h2
  have h3 : encN L (decN L L.length c) L.length = c := h2
  rw [hv _ (by omega) (hok.enc_lt hXy _ (Nat.le_refl _))]
  congr 1
  funext k
  rcases Nat.lt_or_ge k L.length with hk' | hk'
  · exact hok.dec_enc hXy hk'
  · rw [decN_out hk', updX_ne _ _ (by omega), decN_out hk']
set_option maxRecDepth 20000 in
set_option maxHeartbeats 4000000 in
theorem l8Values_c {L : List Mkd} {a b way : Int} {pl : Option ((Nat → Nat) → Int)} (hok : ArmsOk L a b) (A : Option Addr) (c : Nat) (AU : Option Addr) (cU : Nat) (AN : Option Addr) (cN : Nat) (w : World) (h : RdMs w A L) (HV : ValuC L a b way pl A c AU cU AN cN w) :
    Calls Try.prog 85 #[gmV A c AU cU AN cN L.length a b, .int .i64 way] w fun e w' => ∃ vals AV cv, e = .returned (.slice AV (szN L L.length) cv) ∧ vals.length = szN L L.length ∧ Own w' w.heap.size AV cv vals ∧ Below w.heap.size w w' ∧ ∀ X, AtOk L X → (∀ k, L.length ≤ k → X k = 0) → nth vals (encN L X L.length) = valX L a b pl X := by
  unfold gmV
  have HB1 : Below w.heap.size w (w.alloc (.cells #[.slice A L.length c, .slice AU L.length cU, .slice AN L.length cN, .int .i64 a, .int .i64 b] 101)) := (Below.refl _ _).alloc (Nat.le_refl _) _
  have bx := Lib.hid (Bx5.new w (.slice A L.length c) (.slice AU L.length cU) (.slice AN L.length cN) (.int .i64 a) (.int .i64 b) 101)
  have hz : w.heap.size < (w.alloc (.cells #[.slice A L.length c, .slice AU L.length cU, .slice AN L.length cN, .int .i64 a, .int .i64 b] 101)).heap.size := by simp
  have h' := h.below HB1 (Nat.le_refl _)
  have hn3 := hok.n3
  have hs9 := hok.sz729 (Nat.le_refl L.length)
  clear h
  go_enter Try.func85, Try.ntmps85
  go_wp2_with fail
  generalize w.alloc (.cells #[.slice A L.length c, .slice AU L.length cU, .slice AN L.length cN, .int .i64 a, .int .i64 b] 101) = u at *
  have f0 := bx.out.c0
  go_loop [5, 6] (fun q j => ∃ k : Nat, k ≤ L.length ∧ j = .int .i64 (k : Int) ∧ q = .int .i64 (szN L k : Nat)) (fun _ j => L.length - (intOf j).toNat)
  case atStart => exact ⟨0, by omega, rfl, rfl⟩
  case round =>
    obtain ⟨k, hk, rfl, rfl⟩ := hrel
    by_cases hlt : k < L.length
    · obtain ⟨ad, A1, c1, A2, c2, A3, c3, rfl, p1, p2, p3, _, _, _⟩ := h' k hlt
      have p3' := cellOff 2 (by omega) p3
      have hs := szN_succ L k
      have g1 := hok.sz729 hk
      have g3 := hok.fl hlt
      unfold fLen at hs g3
      generalize hfl : (mAt L k).F.length = fl at *
      have hmul : (0 : Int) ≤ (szN L k : Int) * (fl : Int) ∧ (szN L k : Int) * (fl : Int) ≤ 729 * 9 := mul_bd _ _ 729 9 (by omega) (by omega) (by omega) (by omega)
      have e1 : IntKind.i64.wrap ((szN L k : Int) * (fl : Int)) = (szN L k : Int) * (fl : Int) := IntWalk.i64_in _ (by omega)
      have HS := Lib.hid hs
      clear hs hmul p1 p2 p3 g1 g3 hfl
      go_wp2_with fail
      go_round
      case rel => exact ⟨k + 1, by omega, by go_num, by rw [HS.out]⟩
      case measure => simp [intOf] <;> omega
    · obtain rfl : k = L.length := by omega
      have hsz := Lib.hid hs9
      generalize hnv : szN L L.length = nv at *
      go_wp2_with (at_make; refine wp_make_ints _ rfl _ _ rfl _ _ _ _ nv rfl rfl rfl rfl (by omega) ?_; intro w2 o2 b2)
      go_loopw [8] (fun q wr => ∃ (d : Nat) (vals : List Int), d ≤ nv ∧ q = .int .i64 ((d : Int) - 1) ∧ vals.length = nv ∧ Own wr u.heap.size (some ⟨u.heap.size, 0, none⟩) nv vals ∧ (∀ c', d ≤ c' → c' < nv → nth vals c' = valX L a b pl (decN L L.length c')) ∧ Below u.heap.size u wr) (fun q _ => (intOf q + 1).toNat)
      case atStart => exact ⟨nv, _, Nat.le_refl _, by go_num, List.length_replicate, o2, fun c' h1 h2 => by omega, b2⟩
      case round =>
        clear o2 b2 f0
        obtain ⟨v, rfl⟩ : ∃ v : World, v = wr := ⟨_, rfl⟩
        obtain ⟨d, vals, hd, rfl, hvl, ov, hvs, HB⟩ := hrel
        have HVS := Lib.hid hvs
        have HVL := Lib.hid hvl
        clear hvs hvl
        cases d with
        | zero =>
          go_wp2_with fail
          go_ret
          refine ⟨vals, _, _, by rw [hnv] <;> rfl, by rw [hnv]; exact HVL.out, ov.mono (Nat.le_of_lt hz), bUp HB1 HB HB1.size, fun X hX h0 => ?_⟩
          rw [HVS.out _ (Nat.zero_le _) (by rw [← hnv]; exact hok.enc_lt hX _ (Nat.le_refl _))]
          congr 1
          funext k
          rcases Nat.lt_or_ge k L.length with hk' | hk'
          · exact hok.dec_enc hX hk'
          · rw [decN_out hk', h0 k hk']
        | succ d =>
          rw [show ((d + 1 : Nat) : Int) - 1 = (d : Int) by omega]
          have f0 := (HB.cell (p := ⟨w.heap.size, 0, none⟩) hz).trans bx.out.c0
          go_wp2_with (at_make; refine wp_make_ints _ rfl _ _ rfl _ _ _ _ L.length rfl rfl rfl rfl (by omega) ?_; intro w3 o3 b3)
          have hw1 : IntKind.i64.wrap ((L.length : Int) - 1) = (L.length : Int) - 1 := IntWalk.i64_in _ (by omega)
          go_wp2_with fail
          go_loopw [10, 11] (fun r i wr => ∃ j : Nat, j ≤ L.length ∧ r = .int .i64 (restN L L.length d j : Nat) ∧ i = .int .i64 ((L.length : Int) - 1 - (j : Int)) ∧ Own wr v.heap.size (some ⟨v.heap.size, 0, none⟩) L.length (atJ L L.length d j) ∧ Below v.heap.size v wr) (fun _ i _ => (intOf i + 1).toNat)
          case atStart => exact ⟨0, Nat.zero_le _, rfl, by go_num, by rw [atJ_zero]; exact o3, b3⟩
          case round =>
            clear o3 b3 f0
            obtain ⟨v4, rfl⟩ : ∃ v4 : World, v4 = wr := ⟨_, rfl⟩
            obtain ⟨j, hj, rfl, rfl, oa, HA⟩ := hrel
            have hzv : w.heap.size < v.heap.size := Nat.lt_of_lt_of_le hz HB.size
            have HBA := bUp HB HA HB.size
            have f0 := (HBA.cell (p := ⟨w.heap.size, 0, none⟩) hz).trans bx.out.c0
            by_cases hjl : j < L.length
            · obtain ⟨kk, hkk⟩ : ∃ kk : Nat, kk = L.length - 1 - j := ⟨_, rfl⟩
              have hkl : kk < L.length := by omega
              rw [show (L.length : Int) - 1 - (j : Int) = (kk : Int) by omega]
              obtain ⟨ad, A1, c1, A2, c2, A3, c3, rfl, p1, p2, p3, _, _, _⟩ := h' kk hkl
              have p3' := cellOff 2 (by omega) p3
              have g3 := hok.fl hkl
              have hnx := atJ_next (L := L) (n := L.length) (c := d) hjl
              have hre : restN L L.length d (j + 1) = restN L L.length d j / fLen L (L.length - 1 - j) := rfl
              rw [← hkk] at hnx hre
              have hrl : restN L L.length d j < 729 := by
                have := hok.rest_lt (c := d) (by rw [hnv]; omega) j (by omega)
                have := (hok.sz729 (k := L.length - j) (by omega)).2
                omega
              unfold fLen at hnx hre g3
              generalize hfl : (mAt L kk).F.length = fl at *
              generalize restN L L.length d j = r at *
              have hne : ¬ ((fl : Int) = 0) := by omega
              have em : ((r : Int).tmod (fl : Int)) = ((r % fl : Nat) : Int) := rfl
              have ed : ((r : Int).tdiv (fl : Int)) = ((r / fl : Nat) : Int) := rfl
              have hb1 : r % fl < 729 := Nat.lt_of_le_of_lt (Nat.mod_le _ _) hrl
              have hb2 : r / fl < 729 := Nat.lt_of_le_of_lt (Nat.div_le_self _ _) hrl
              obtain ⟨qm, hqm⟩ : ∃ qm : Nat, qm = r % fl := ⟨_, rfl⟩
              obtain ⟨qd, hqd⟩ : ∃ qd : Nat, qd = r / fl := ⟨_, rfl⟩
              have e3 : (r : Int) % (fl : Int) = (qm : Int) := by rw [hqm]; rfl
              have E4 := Lib.hid (div_fl (fl := fl) hb2 hqd)
              rw [← hqm] at em hb1 hnx
              rw [← hqd] at ed hb2 hre
              clear hqm hqd
              have e1 : IntKind.i64.wrap ((r : Int).tmod (fl : Int)) = (qm : Int) := by rw [em]; exact i64_729 hb1
              have e2 : IntKind.i64.wrap ((r : Int).tdiv (fl : Int)) = (qd : Int) := by rw [ed]; exact i64_729 hb2
              obtain ⟨u0, hco⟩ := oa.some_ (k := kk) (by rw [atJ_len]; exact hkl)
              have hfo := oa.frozen kk
              have hst := (oa.set kk (qm : Int)).1
              rw [hnx] at hst
              have HS := HA.setCell (p := ⟨v.heap.size, kk, none⟩) (Nat.le_refl _) (.int .i64 (qm : Int))
              have HBS := bUp HB HS HB.size
              have f0' := (HBS.cell (p := ⟨w.heap.size, 0, none⟩) hz).trans bx.out.c0
              have p4 := (HBA.cell (cell_lt p3')).trans p3'
              have p5 := (HBS.cell (cell_lt p3')).trans p3'
              have HRE := Lib.hid hre
              have HI := Lib.hid (show (L.length : Int) - 1 - ((j + 1 : Nat) : Int) = (kk : Int) - 1 by omega)
              have HKK := Lib.hid hkk
              clear hkk p1 p2 p3 p3' hnx hre em ed hb1 hb2 hrl oa g3 hfl
              go_wp2_with fail
              go_roundw
              case rel => exact ⟨j + 1, by omega, by rw [HRE.out]; exact congrArg _ E4.out, by rw [HI.out], hst, HS⟩
              case measure => have := HKK.out; simp [intOf] <;> omega
            · obtain rfl : j = L.length := by omega
              rw [show (L.length : Int) - 1 - (L.length : Int) = -1 by omega]
              rw [atJ_all] at oa
              have ov4 := ov.below HA
              have fs1 := (HBA.cell (p := ⟨w.heap.size, 1, none⟩) hz).trans bx.out.c1
              have fs2 := (HBA.cell (p := ⟨w.heap.size, 2, none⟩) hz).trans bx.out.c2
              have fs3 := (HBA.cell (p := ⟨w.heap.size, 3, none⟩) hz).trans bx.out.c3
              have fs4 := (HBA.cell (p := ⟨w.heap.size, 4, none⟩) hz).trans bx.out.c4
              have C := HV (decN L L.length d) (some ⟨u.heap.size, 0, none⟩) nv vals (some ⟨v.heap.size, 0, none⟩) L.length v4 (hok.dec_ok d) (bUp HB1 HBA HB1.size) ov4.rd (by rw [hnv]; exact HVL.out) oa.rd (valsOk_of hok (by rw [hnv]; omega) fun c' h1 h2 => HVS.out c' (by omega) (by rw [← hnv]; exact h2))
              rw [hnv] at C
              unfold gmV at C
              go_wp2_with fail
              refine C.mono ?_
              rintro e v5 ⟨rfl, b5⟩
              clear C f0 fs1 fs2 fs3 fs4
              have ov5 := ov4.below b5
              obtain ⟨u0, hco⟩ := ov5.some_ (k := d) (by rw [HVL.out]; omega)
              have hfo := ov5.frozen d
              have hst := (ov5.set d (valX L a b pl (decN L L.length d))).1
              have HB5 := bUp HBA b5 HBA.size
              have HB6 := HB5.setCell (p := ⟨u.heap.size, d, none⟩) (Nat.le_refl _) (.int .i64 (valX L a b pl (decN L L.length d)))
              have hdn : d < nv := by omega
              clear oa ov4 ov5 b5 HB5
              go_wp2_with fail
              go_roundw
              case rel => exact ⟨d, _, by omega, by go_num, by rw [List.length_set]; exact HVL.out, hst, fun c' h1 h2 => by
                rcases Nat.eq_or_lt_of_le h1 with rfl | h1
                · rw [nth_set_self (by rw [HVL.out]; exact h2)]
                · rw [nth_set_ne (by omega)]
                  exact HVS.out c' (by omega) h2, HB6⟩
              case measure => simp [intOf] <;> omega

end Go.Proofs.Ytfobjkdkjlbkfaa
