/- The market of a row, plainly: it is full, its ends tell how often it went up, and its upper prices are the row's values. No program stands here. -/
import Derived.Test.YtnhclpajfejnoaaRwL
import Derived.Test.YtnhclpajfejnoaaHgL
import Derived.Test.YtnhclpajfejnoaaFuW
import Derived.Test.YtnhclpajfejnoaaCaL
import Derived.Test.YtnhclpajfejnoaaPrI
namespace Go.Proofs.Ytnhclpajfejnoaa
open Go.RowKit

def upT (x : Nat) : Nat := [0, 1, 0, 2, 1, 1, 0, 3, 2, 2, 1, 2, 1, 1, 0].getD x 0
def dpT (x : Nat) : Nat := [0, 1, 1, 2, 2, 2, 2, 3, 3, 3, 3, 3, 3, 3, 3].getD x 0
theorem tab_all : ((List.range 7).all fun y => decide (upT (2 * y + 1) = upT y + 1 ∧ upT (2 * y + 2) = upT y ∧ dpT (2 * y + 1) = dpT y + 1 ∧ dpT (2 * y + 2) = dpT y + 1 ∧ upT y ≤ dpT y)) = true := by kernel_rfl
theorem tab_at {y : Nat} (h : y < 7) : upT (2 * y + 1) = upT y + 1 ∧ upT (2 * y + 2) = upT y ∧ dpT (2 * y + 1) = dpT y + 1 ∧ dpT (2 * y + 2) = dpT y + 1 ∧ upT y ≤ dpT y :=
  of_decide_eq_true (List.all_eq_true.1 tab_all y (List.mem_range.2 h))
theorem tree_all : ((List.range 4).all fun n => (List.range (rmK n)).all fun x => if endB (rmP (rmK n)) x then decide (dpT x = n ∧ upT x ≤ n) else decide (kids (rmP (rmK n)) (x : Int) = [2 * (x : Int) + 1, 2 * (x : Int) + 2] ∧ 2 * x + 2 < rmK n ∧ dpT x < n)) = true := by kernel_rfl
theorem tree_end {n x : Nat} (hn : n ≤ 3) (hx : x < rmK n) (he : endB (rmP (rmK n)) x = true) : dpT x = n ∧ upT x ≤ n := by
  have := List.all_eq_true.1 (List.all_eq_true.1 tree_all n (List.mem_range.2 (by omega))) x (List.mem_range.2 hx)
  rw [he, if_pos rfl] at this
  exact of_decide_eq_true this
theorem tree_in {n x : Nat} (hn : n ≤ 3) (hx : x < rmK n) (he : endB (rmP (rmK n)) x = false) : kids (rmP (rmK n)) (x : Int) = [2 * (x : Int) + 1, 2 * (x : Int) + 2] ∧ 2 * x + 2 < rmK n ∧ dpT x < n := by
  have := List.all_eq_true.1 (List.all_eq_true.1 tree_all n (List.mem_range.2 (by omega))) x (List.mem_range.2 hx)
  rw [he, if_neg (by decide)] at this
  exact of_decide_eq_true this
theorem rmK_15 {n : Nat} (hn : n ≤ 3) : 1 ≤ rmK n ∧ rmK n ≤ 15 := by
  have : n = 0 ∨ n = 1 ∨ n = 2 ∨ n = 3 := by omega
  rcases this with rfl | rfl | rfl | rfl <;> decide
section
variable {u d p : Int} {n : Nat}
/-- A node's price by how often it went up and down. -/
theorem prX_tab : ∀ m x, x < m → x < 15 → prX u d p x = p + (upT x : Int) * u - ((dpT x : Int) - (upT x : Int)) * d
  | 0, x, h, _ => by omega
  | m + 1, x, h, h15 => by
    rcases Nat.eq_zero_or_pos x with rfl | hx
    · rw [prX_zero]; simp [upT, dpT]
    · rcases Nat.mod_two_eq_zero_or_one x with hm | hm
      · obtain ⟨y, rfl⟩ : ∃ y, x = 2 * y + 2 := ⟨(x - 2) / 2, by omega⟩
        have t := tab_at (y := y) (by omega)
        rw [prX_even, prX_tab m y (by omega) (by omega), t.2.1, t.2.2.2.1]
        have : (((dpT y + 1 : Nat) : Int) - (upT y : Int)) * d = ((dpT y : Int) - (upT y : Int)) * d + d := by rw [show ((dpT y + 1 : Nat) : Int) = (dpT y : Int) + 1 by omega]; grind
        omega
      · obtain ⟨y, rfl⟩ : ∃ y, x = 2 * y + 1 := ⟨(x - 1) / 2, by omega⟩
        have t := tab_at (y := y) (by omega)
        rw [prX_odd, prX_tab m y (by omega) (by omega), t.1, t.2.2.1]
        have e1 : ((upT y + 1 : Nat) : Int) * u = (upT y : Int) * u + u := by rw [show ((upT y + 1 : Nat) : Int) = (upT y : Int) + 1 by omega]; grind
        have e2 : ((dpT y + 1 : Nat) : Int) - ((upT y + 1 : Nat) : Int) = (dpT y : Int) - (upT y : Int) := by omega
        rw [e1, e2]
        omega
/-- How often an end went up. -/
theorem end_ups {x : Nat} (hn : n ≤ 3) (hx : x < rmK n) (he : endB (rmP (rmK n)) x = true) : prX u d p x - p + (n : Int) * d = (upT x : Int) * (u + d) := by
  have hk := rmK_15 hn
  rw [prX_tab (x + 1) x (by omega) (by omega), (tree_end hn hx he).1]
  grind
/-- What a row's market is asked to be. -/
structure RmOk (n : Nat) (u d p : Int) : Prop extends RowOk n u d where
  n3 : n ≤ 3
  f20 : allB (rmF u d p (rmK n)) 0 20 = true
theorem rmB_ok {k u d p : Int} (h : rmB k u d p = true) : 0 ≤ k ∧ RmOk k.toNat u d p := by
  simp only [rmB, Bool.and_eq_true, decide_eq_true_eq] at h
  have hr : rowB k u d = true := by simp only [rowB, Bool.and_eq_true]; exact h.1.1
  obtain ⟨h0, h1⟩ := rowB_iff.1 hr
  exact ⟨h0, h1, by have := h.1.2; omega, h.2⟩
theorem RmOk.mkt (h : RmOk n u d p) : mktB (rmP (rmK n)) (ownW (rmP (rmK n))) (rmF u d p (rmK n)) = true := by
  rw [mktB, rm_tree h.n3, rmF_len, rmP_len, h.f20]
  simp
theorem RmOk.tree (h : RmOk n u d p) : TreeOk (rmP (rmK n)) (ownW (rmP (rmK n))) := (mktB_iff.1 h.mkt).1
/-- Its children: one above, one below. -/
theorem RmOk.sides (h : RmOk n u d p) {x : Nat} (hx : x < rmK n) (he : endB (rmP (rmK n)) x = false) :
    lessL (rmP (rmK n)) (rmF u d p (rmK n)) x = [2 * (x : Int) + 2] ∧ moreL (rmP (rmK n)) (rmF u d p (rmK n)) x = [2 * (x : Int) + 1] ∧ sameL (rmP (rmK n)) (rmF u d p (rmK n)) x = [] := by
  obtain ⟨hk, hl, _⟩ := tree_in h.n3 hx he
  have f0 : nth (rmF u d p (rmK n)) x = prX u d p x := rmF_nth hx
  have f1 : nth (rmF u d p (rmK n)) (2 * (x : Int) + 1).toNat = prX u d p x + u := by
    rw [show (2 * (x : Int) + 1).toNat = 2 * x + 1 by omega, rmF_nth (by omega), prX_odd]
  have f2 : nth (rmF u d p (rmK n)) (2 * (x : Int) + 2).toNat = prX u d p x - d := by
    rw [show (2 * (x : Int) + 2).toNat = 2 * x + 2 by omega, rmF_nth (by omega), prX_even]
  have hu := h.u1
  have hd := h.d1
  have a1 : ¬ prX u d p x + u < prX u d p x := by omega
  have a2 : prX u d p x - d < prX u d p x := by omega
  have a3 : prX u d p x < prX u d p x + u := by omega
  have a4 : ¬ prX u d p x < prX u d p x - d := by omega
  have a5 : ¬ prX u d p x + u = prX u d p x := by omega
  have a6 : ¬ prX u d p x - d = prX u d p x := by omega
  rw [lessL, moreL, sameL, lessTo, moreTo, sameTo, List.take_length, hk]
  simp only [List.filter_cons, List.filter_nil, f0, f1, f2, a1, a2, a3, a4, a5, a6, decide_true, decide_false, if_true, if_false, Bool.false_eq_true, and_self]
theorem RmOk.none (_h : RmOk n u d p) {x : Nat} (he : endB (rmP (rmK n)) x = true) : lessL (rmP (rmK n)) (rmF u d p (rmK n)) x = [] ∧ moreL (rmP (rmK n)) (rmF u d p (rmK n)) x = [] ∧ sameL (rmP (rmK n)) (rmF u d p (rmK n)) x = [] := by
  have hk := (kids_nil x).2 he
  rw [lessL, moreL, sameL, lessTo, moreTo, sameTo, List.take_length, hk]
  exact ⟨rfl, rfl, rfl⟩
theorem RmOk.even (h : RmOk n u d p) {x : Nat} (hx : x < rmK n) : unB (rmP (rmK n)) (rmF u d p (rmK n)) x = false ∧ nfB (rmP (rmK n)) (rmF u d p (rmK n)) x = false := by
  cases he : endB (rmP (rmK n)) x with
  | false =>
    obtain ⟨h1, h2, h3⟩ := h.sides hx he
    rw [unB, nfB, h1, h2, h3]
    exact ⟨rfl, rfl⟩
  | true =>
    obtain ⟨h1, h2, h3⟩ := h.none he
    rw [unB, nfB, h1, h2, h3]
    exact ⟨rfl, rfl⟩
theorem RmOk.snd (h : RmOk n u d p) : sndB (rmP (rmK n)) (ownW (rmP (rmK n))) (rmF u d p (rmK n)) = true := by
  simp only [sndB, Bool.and_eq_true, decide_eq_true_eq]
  exact ⟨h.mkt, unK_none fun j hj => (h.even (by rwa [rmP_len] at hj)).1⟩
theorem RmOk.full (h : RmOk n u d p) : fuV (rmP (rmK n)) (ownW (rmP (rmK n))) (rmF u d p (rmK n)) = true := fu_yes h.snd fun x hx => (h.even (by rwa [rmP_len] at hx)).2
/-- A row's value at a node, as a fraction. -/
def rwP (u d : Int) (xs : List Int) (n x : Nat) : Int × Int := (cutT (rvA u d xs (n - dpT x) (upT x)) (pw (u + d) (n - dpT x)), cutB (rvA u d xs (n - dpT x) (upT x)) (pw (u + d) (n - dpT x)))
theorem btw_row {a b S s du dd : Int} (hS : 0 < S) (hs : 0 < s) (hsum : du + dd = s) :
    (cutT (cutT a S * du * cutB b S + cutT b S * dd * cutB a S) ((du + dd) * cutB a S * cutB b S), cutB (cutT a S * du * cutB b S + cutT b S * dd * cutB a S) ((du + dd) * cutB a S * cutB b S)) = (cutT (dd * b + du * a) (S * s), cutB (dd * b + du * a) (S * s)) := by
  have pa := cutB_pos (a := a) hS
  have pb := cutB_pos (a := b) hS
  have ca := cut_cross a S
  have cb := cut_cross b S
  subst hsum
  generalize cutT a S = ta at *
  generalize cutB a S = ba at *
  generalize cutT b S = tb at *
  generalize cutB b S = bb at *
  have h1 : 0 < (du + dd) * ba * bb := Int.mul_pos (Int.mul_pos hs pa) pb
  have h2 : 0 < S * (du + dd) := Int.mul_pos hS hs
  have key : (ta * du * bb + tb * dd * ba) * (S * (du + dd)) = (dd * b + du * a) * ((du + dd) * ba * bb) := by
    have e1 : (ta * du * bb + tb * dd * ba) * (S * (du + dd)) = ((ta * S) * du * bb + (tb * S) * dd * ba) * (du + dd) := by grind
    rw [e1, ca, cb]
    grind
  have c := cut_congr h1 h2 key
  rw [c.1, c.2]
/-- Values of a row that may stand as claims. -/
structure RowC (n : Nat) (xs : List Int) : Prop where
  len : xs.length = n + 1
  bd : ∀ i, i ≤ n → -99 ≤ nth xs i ∧ nth xs i ≤ 99
theorem row_fr (h : RowOk n u d) {xs : List Int} (hx : RowC n xs) {k i : Nat} (hk : i + k ≤ n) : frP (cutT (rvA u d xs k i) (pw (u + d) k), cutB (rvA u d xs k i) (pw (u + d) k)) = true := by
  have hw : RowW n u d xs := ⟨h, hx.len, fun i hi => by have := hx.bd i hi; omega⟩
  have b := hw.rv hk
  have p := h.pb (k := k) (by have := h.n4; omega)
  exact (lw_ok (by omega) (by omega)).1
/-- The filling in of the prices, from the ends to the root. -/
theorem RmOk.fill (h : RmOk n u d p) {xs C : List Int} (hx : RowC n xs) (hC : C.length = (endL (rmP (rmK n))).length) (hv : ∀ i, i < (endL (rmP (rmK n))).length → nth C i = nth xs (upT (nth (endL (rmP (rmK n))) i).toNat)) :
    ∀ m, m ≤ rmK n → ∃ out, stL true (rmP (rmK n)) (rmF u d p (rmK n)) C m = some out ∧ out.length = rmK n ∧ ∀ y, y < rmK n → rmK n - m ≤ y ∨ endB (rmP (rmK n)) y = true → nP out y = rwP u d xs n y
  | 0, _ => by
    refine ⟨_, rfl, by rw [stTo_length, rmP_len], fun y hy hh => ?_⟩
    have he : endB (rmP (rmK n)) y = true := hh.resolve_left (by omega)
    obtain ⟨i, hi, e⟩ := end_idx (by rw [rmP_len]; exact hy) he
    have := stTo_ends (C := C) _ (Nat.le_refl _) i hi
    rw [e, Int.toNat_natCast] at this
    rw [this, hv i hi, e, Int.toNat_natCast, rwP, (tree_end h.n3 hy he).1, Nat.sub_self]
    simp only [rvA, pw]
    rw [(cut_one _).1, (cut_one _).2]
  | m + 1, hm => by
    obtain ⟨out, ho, hl, hy⟩ := RmOk.fill h hx hC hv m (by omega)
    have hk15 := rmK_15 h.n3
    obtain ⟨x, hxe⟩ : ∃ x, x = rmK n - 1 - m := ⟨_, rfl⟩
    have hx0 : x < rmK n := by omega
    have hst : stL true (rmP (rmK n)) (rmF u d p (rmK n)) C (m + 1) = stepX true (rmP (rmK n)) (rmF u d p (rmK n)) x out := by
      rw [stL, ho, rmP_len, ← hxe]
      rfl
    rw [hst]
    cases he : endB (rmP (rmK n)) x with
    | true =>
      refine ⟨out, step_end he, hl, fun y h1 h2 => hy y h1 ?_⟩
      rcases h2 with h2 | h2
      · rcases Nat.eq_or_lt_of_le (show x ≤ y by omega) with e | e
        · exact .inr (by rw [← e]; exact he)
        · exact .inl (by omega)
      · exact .inr h2
    | false =>
      obtain ⟨hkid, hlt, hdp⟩ := tree_in h.n3 hx0 he
      obtain ⟨s1, s2, s3⟩ := h.sides hx0 he
      have t := tab_at (y := x) (by omega)
      have y1 := hy (2 * x + 1) (by omega) (.inl (by omega))
      have y2 := hy (2 * x + 2) (by omega) (.inl (by omega))
      have f0 : nth (rmF u d p (rmK n)) x = prX u d p x := rmF_nth hx0
      have f1 : nth (rmF u d p (rmK n)) (2 * x + 1) = prX u d p x + u := by rw [rmF_nth (by omega), prX_odd]
      have f2 : nth (rmF u d p (rmK n)) (2 * x + 2) = prX u d p x - d := by rw [rmF_nth (by omega), prX_even]
      obtain ⟨k, hk⟩ : ∃ k, n = dpT x + (k + 1) := ⟨n - dpT x - 1, by omega⟩
      have hb : btw (rmF u d p (rmK n)) out x (2 * x + 2) (2 * x + 1) = rwP u d xs n x := by
        have e1 : pT out (2 * x + 1) = (nP out (2 * x + 1)).1 := rfl
        have e2 : pB out (2 * x + 1) = (nP out (2 * x + 1)).2 := rfl
        have e3 : pT out (2 * x + 2) = (nP out (2 * x + 2)).1 := rfl
        have e4 : pB out (2 * x + 2) = (nP out (2 * x + 2)).2 := rfl
        rw [btw, btX, btY, e1, e2, e3, e4, y1, y2, f0, f1, f2]
        simp only [rwP]
        rw [t.1, t.2.1, t.2.2.1, t.2.2.2.1, show n - (dpT x + 1) = k by omega, show n - dpT x = k + 1 by omega]
        have eu : prX u d p x + u - prX u d p x = u := by omega
        have ed : prX u d p x - (prX u d p x - d) = d := by omega
        have es : prX u d p x + u - (prX u d p x - d) = u + d := by omega
        rw [eu, ed, es, rvA, pw_succ]
        have hp := (h.toRowOk.pb (k := k) (by have := h.n3; omega)).1
        have := h.u1
        have := h.d1
        exact btw_row (by omega) (by omega) rfl
      have hfr : frP (rwP u d xs n x) = true := row_fr h.toRowOk hx (by have := t.2.2.2.2; omega)
      have hmem : ∀ f, f ∈ chL (rmP (rmK n)) (rmF u d p (rmK n)) out x → f = rwP u d xs n x := fun f hf => by
        rcases mem_imL.1 ((mem_both f).1 hf) with ⟨a, ha, rfl⟩ | ⟨a, ha, b, hb2, rfl⟩
        · rw [s3] at ha; cases ha
        · rw [s1] at ha
          rw [s2] at hb2
          rw [List.mem_singleton] at ha hb2
          subst ha hb2
          rw [show (2 * (x : Int) + 2).toNat = 2 * x + 2 by omega, show (2 * (x : Int) + 1).toNat = 2 * x + 1 by omega]
          exact hb
      have hall : (chL (rmP (rmK n)) (rmF u d p (rmK n)) out x).all frP = true := List.all_eq_true.2 fun f hf => by rw [hmem f hf]; exact hfr
      have htop := hmem _ (topOf_mem (up := true) (chL_pos (out := out) he (h.even hx0).1))
      refine ⟨out.set x (rwP u d xs n x), ?_, by rw [List.length_set]; exact hl, fun y h1 h2 => ?_⟩
      · rw [stepX, he, if_neg (by decide), hall, if_pos rfl, htop]
      · rcases Decidable.em (y = x) with rfl | hne
        · exact nP_set_self (by rw [hl]; exact h1) _
        · rw [nP_set_ne (Ne.symm hne)]
          refine hy y h1 ?_
          rcases h2 with h2 | h2
          · exact .inl (by omega)
          · exact .inr h2
theorem RmOk.claims (_h : RmOk n u d p) {xs C : List Int} (hx : RowC n xs) (hC : C.length = (endL (rmP (rmK n))).length) (hv : ∀ i, i < (endL (rmP (rmK n))).length → nth C i = nth xs (upT (nth (endL (rmP (rmK n))) i).toNat)) (hn : n ≤ 3) : clmB (rmP (rmK n)) C = true := by
  simp only [clmB, Bool.and_eq_true, decide_eq_true_eq]
  refine ⟨hC, List.all_eq_true.2 fun c hc => ?_⟩
  obtain ⟨i, hi, e⟩ := List.mem_iff_getElem.1 hc
  obtain ⟨j, hj, hje, hj2⟩ := endL_nth (P := rmP (rmK n)) (i := i) (by omega)
  rw [rmP_len] at hj
  rw [← e, ← nth_eq hi, hv i (by omega), hj2, Int.toNat_natCast]
  exact inB_iff.2 (hx.bd _ (tree_end hn hj hje).2)
/-- The upper prices exist, and the root's one is the row's value. -/
theorem RmOk.price (h : RmOk n u d p) {xs C : List Int} (hx : RowC n xs) (hC : C.length = (endL (rmP (rmK n))).length) (hv : ∀ i, i < (endL (rmP (rmK n))).length → nth C i = nth xs (upT (nth (endL (rmP (rmK n))) i).toNat)) :
    prB true (rmP (rmK n)) (ownW (rmP (rmK n))) (rmF u d p (rmK n)) C = true ∧ 0 < (prV true (rmP (rmK n)) (ownW (rmP (rmK n))) (rmF u d p (rmK n)) C).length ∧ nP (prV true (rmP (rmK n)) (ownW (rmP (rmK n))) (rmF u d p (rmK n)) C) 0 = (cutT (rvA u d xs n 0) (pw (u + d) n), cutB (rvA u d xs n 0) (pw (u + d) n)) := by
  obtain ⟨out, ho, hl, hy⟩ := h.fill hx hC hv (rmK n) (Nat.le_refl _)
  have hk15 := rmK_15 h.n3
  have hs := h.snd
  simp only [sndB, Bool.and_eq_true] at hs
  have hb : prB true (rmP (rmK n)) (ownW (rmP (rmK n))) (rmF u d p (rmK n)) C = true := by
    simp only [prB, Bool.and_eq_true]
    exact ⟨⟨⟨hs.1, h.claims hx hC hv h.n3⟩, hs.2⟩, by rw [rmP_len, ho]; rfl⟩
  have e : prV true (rmP (rmK n)) (ownW (rmP (rmK n))) (rmF u d p (rmK n)) C = out := by rw [prV, if_pos hb, rmP_len, ho]; rfl
  rw [e]
  refine ⟨hb, by omega, ?_⟩
  rw [hy 0 (by omega) (.inl (by omega)), rwP]
  rfl
end
end Go.Proofs.Ytnhclpajfejnoaa
