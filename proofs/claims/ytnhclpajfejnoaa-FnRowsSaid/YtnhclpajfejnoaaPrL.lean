/- Upper and lower prices, plainly: the best of a node's prices does not hang on their order. No program stands here. -/
import Derived.Test.YtnhclpajfejnoaaPairs
import Derived.Test.YtnhclpajfejnoaaTreA
import Derived.Test.YtnhclpajfejnoaaFracB
namespace Go.Proofs.Ytnhclpajfejnoaa

/-- f is less than g. -/
def lessP (f g : Int × Int) : Bool := decide (f.1 * g.2 < g.1 * f.2)
/-- f is wanted more than g. -/
def betP (up : Bool) (f g : Int × Int) : Bool := if up then lessP g f else lessP f g
theorem le_trans3 {a b c d e f : Int} (hd : 0 < d) (hb : 0 ≤ b) (hf : 0 ≤ f) (h1 : a * d ≤ c * b) (h2 : c * f ≤ e * d) : a * f ≤ e * b := by
  have h3 : a * d * f ≤ c * b * f := Int.mul_le_mul_of_nonneg_right h1 hf
  have h4 : c * f * b ≤ e * d * b := Int.mul_le_mul_of_nonneg_right h2 hb
  have h5 : (a * f) * d ≤ (e * b) * d := by
    have e1 : a * d * f = a * f * d := by grind
    have e2 : c * b * f = c * f * b := by grind
    have e3 : e * d * b = e * b * d := by grind
    omega
  exact Int.le_of_mul_le_mul_right h5 hd
theorem bet_trans {up : Bool} {f g h : Int × Int} (pf : 0 < f.2) (pg : 0 < g.2) (ph : 0 < h.2) (h1 : betP up f g = false) (h2 : betP up g h = false) : betP up f h = false := by
  cases up
  · simp only [betP, lessP, Bool.false_eq_true, if_false, decide_eq_false_iff_not, Int.not_lt] at *
    exact le_trans3 pg (by omega) (by omega) h2 h1
  · simp only [betP, lessP, if_true, decide_eq_false_iff_not, Int.not_lt] at *
    exact le_trans3 pg (by omega) (by omega) h1 h2
theorem bet_asym {up : Bool} {f g : Int × Int} (h : betP up f g = true) : betP up g f = false := by
  cases up
  · simp only [betP, lessP, Bool.false_eq_true, if_false, decide_eq_false_iff_not, Int.not_lt, decide_eq_true_eq] at *
    omega
  · simp only [betP, lessP, if_true, decide_eq_false_iff_not, Int.not_lt, decide_eq_true_eq] at *
    omega
theorem bet_refl (up : Bool) (f : Int × Int) : betP up f f = false := by
  cases up
  · simp [betP, lessP]
  · simp [betP, lessP]
theorem bet_eq {up : Bool} {f g : Int × Int} (h1 : betP up f g = false) (h2 : betP up g f = false) : f.1 * g.2 = g.1 * f.2 := by
  cases up
  · simp only [betP, lessP, Bool.false_eq_true, if_false, decide_eq_false_iff_not, Int.not_lt] at *
    omega
  · simp only [betP, lessP, if_true, decide_eq_false_iff_not, Int.not_lt] at *
    omega
def nP (l : List (Int × Int)) (k : Nat) : Int × Int := l.getD k (0, 0)
theorem nP_mem {l : List (Int × Int)} {k : Nat} (h : k < l.length) : nP l k ∈ l := by
  unfold nP
  rw [List.getD_eq_getElem?_getD, List.getElem?_eq_getElem h]
  exact List.getElem_mem h
/-- The best one of the first k + 1. -/
def bestTo (up : Bool) (l : List (Int × Int)) : Nat → Int × Int
  | 0 => nP l 0
  | k + 1 => if betP up (nP l (k + 1)) (bestTo up l k) then nP l (k + 1) else bestTo up l k
theorem bestTo_mem {up : Bool} {l : List (Int × Int)} : ∀ k, k < l.length → bestTo up l k ∈ l
  | 0, h => nP_mem h
  | k + 1, h => by
    rw [bestTo]
    split
    · exact nP_mem h
    · exact bestTo_mem k (by omega)
theorem bestTo_max {up : Bool} {l : List (Int × Int)} (hp : ∀ f ∈ l, 0 < f.2) : ∀ k, k < l.length → ∀ i, i ≤ k → betP up (nP l i) (bestTo up l k) = false
  | 0, _, i, hi => by
    obtain rfl : i = 0 := by omega
    exact bet_refl _ _
  | k + 1, h, i, hi => by
    have ih := bestTo_max (up := up) hp k (by omega)
    rw [bestTo]
    split
    · next hb =>
      rcases Nat.eq_or_lt_of_le hi with rfl | hi
      · exact bet_refl _ _
      · exact bet_trans (hp _ (nP_mem (by omega))) (hp _ (bestTo_mem k (by omega))) (hp _ (nP_mem h)) (ih i (by omega)) (bet_asym hb)
    · next hb =>
      rcases Nat.eq_or_lt_of_le hi with rfl | hi
      · simpa using hb
      · exact ih i (by omega)
def topOf (up : Bool) (l : List (Int × Int)) : Int × Int := bestTo up l (l.length - 1)
theorem topOf_mem {up : Bool} {l : List (Int × Int)} (h : 0 < l.length) : topOf up l ∈ l := bestTo_mem _ (by omega)
theorem topOf_max {up : Bool} {l : List (Int × Int)} (hp : ∀ f ∈ l, 0 < f.2) {f : Int × Int} (hf : f ∈ l) : betP up f (topOf up l) = false := by
  obtain ⟨i, hi, rfl⟩ := List.mem_iff_getElem.1 hf
  have e : nP l i = l[i] := by simp [nP, hi]
  rw [← e]
  exact bestTo_max hp _ (by omega) i (by omega)
def frP (f : Int × Int) : Bool := fracB f.1 f.2
theorem frP_iff {f : Int × Int} : frP f = true ↔ (-1000000000 ≤ f.1 ∧ f.1 ≤ 1000000000) ∧ (1 ≤ f.2 ∧ f.2 ≤ 1000000) ∧ gI f.1 f.2 = 1 := by
  simp only [frP, fracB, Bool.and_eq_true, inB_iff, decide_eq_true_eq, and_assoc]
theorem fr_eq {f g : Int × Int} (hf : frP f = true) (hg : frP g = true) (h : f.1 * g.2 = g.1 * f.2) : f = g := by
  have h1 := frP_iff.1 hf
  have h2 := frP_iff.1 hg
  have a := cut_same (a := f.1) (b := f.2) (by omega) h1.2.2
  have b := cut_same (a := g.1) (b := g.2) (by omega) h2.2.2
  have c := cut_congr (a := f.1) (b := f.2) (c := g.1) (d := g.2) (by omega) (by omega) h
  exact Prod.ext (by rw [← a.1, c.1, b.1]) (by rw [← a.2, c.2, b.2])
theorem topOf_congr {up : Bool} {l l' : List (Int × Int)} (hm : ∀ f, f ∈ l ↔ f ∈ l') (hf : ∀ f ∈ l, frP f = true) (h : 0 < l.length) : topOf up l = topOf up l' := by
  have hl' : 0 < l'.length := List.length_pos_of_mem ((hm _).1 (nP_mem h))
  have p1 : ∀ f ∈ l, 0 < f.2 := fun f hx => by have := (frP_iff.1 (hf f hx)).2.1; omega
  have p2 : ∀ f ∈ l', 0 < f.2 := fun f hx => p1 f ((hm f).2 hx)
  have m1 := topOf_mem (up := up) h
  have m2 := topOf_mem (up := up) hl'
  exact fr_eq (hf _ m1) (hf _ ((hm _).2 m2)) (bet_eq (topOf_max p2 ((hm _).1 m1)) (topOf_max p1 ((hm _).2 m2)))

/-- The price between two children's. -/
def btX (F : List Int) (out : List (Int × Int)) (x y z : Nat) : Int := pT out y * (nth F z - nth F x) * pB out z + pT out z * (nth F x - nth F y) * pB out y
def btY (F : List Int) (out : List (Int × Int)) (_x y z : Nat) : Int := (nth F z - nth F y) * pB out y * pB out z
def btw (F : List Int) (out : List (Int × Int)) (x y z : Nat) : Int × Int := (cutT (btX F out x y z) (btY F out x y z), cutB (btX F out x y z) (btY F out x y z))
theorem btw_half {f1 f2 p b a u1 u2 s1 s2 : Int} (hu : 0 < u2) (e1 : u1 * (b - a) = (b - p) * u2) (e3 : s1 * (f2 * u2) = (f1 * u1) * s2) : s1 * f2 * (b - a) = f1 * (b - p) * s2 := by
  have hu0 : u2 ≠ 0 := by omega
  have : (s1 * f2 * (b - a)) * u2 = (f1 * (b - p) * s2) * u2 := by
    have a1 : (s1 * f2 * (b - a)) * u2 = s1 * (f2 * u2) * (b - a) := by grind
    have a2 : (f1 * (b - p) * s2) * u2 = f1 * ((b - p) * u2) * s2 := by grind
    rw [a1, a2, e3, ← e1]
    grind
  exact Int.eq_of_mul_eq_mul_right hu0 this
theorem btw_sum {f1 f2 g1 g2 p a b u1 u2 v1 v2 s1 s2 t1 t2 : Int} (hu : 0 < u2) (hv : 0 < v2) (e1 : u1 * (b - a) = (b - p) * u2) (e2 : v1 * (b - a) = (p - a) * v2) (e3 : s1 * (f2 * u2) = (f1 * u1) * s2) (e4 : t1 * (g2 * v2) = (g1 * v1) * t2) :
    (s1 * t2 + t1 * s2) * ((b - a) * f2 * g2) = (f1 * (b - p) * g2 + g1 * (p - a) * f2) * (s2 * t2) := by
  have q1 := btw_half hu e1 e3
  have q2 : t1 * g2 * (b - a) = g1 * (p - a) * t2 := by
    have := btw_half (p := b - (p - a)) (b := b) (a := a) (f1 := g1) (f2 := g2) (s1 := t1) (s2 := t2) hv (by rw [e2]; grind) e4
    rw [this]
    grind
  have a1 : (s1 * t2 + t1 * s2) * ((b - a) * f2 * g2) = (s1 * f2 * (b - a)) * (g2 * t2) + (t1 * g2 * (b - a)) * (f2 * s2) := by grind
  rw [a1, q1, q2]
  grind
/-- The reference's prices at a node, child by child. -/
def chB (P F : List Int) (out : List (Int × Int)) (x : Nat) (a : Int) (k : Nat) : List (Int × Int) :=
  ((kids P (x : Int)).take k).flatMap fun b => if nth F a.toNat < nth F x ∧ nth F x < nth F b.toNat then [btw F out x a.toNat b.toNat] else []
def chS_ (F : List Int) (out : List (Int × Int)) (x : Nat) (a : Int) : List (Int × Int) := if nth F a.toNat = nth F x then [nP out a.toNat] else []
def chT (P F : List Int) (out : List (Int × Int)) (x i : Nat) : List (Int × Int) :=
  ((kids P (x : Int)).take i).flatMap fun a => chS_ F out x a ++ chB P F out x a (kids P (x : Int)).length
def chL (P F : List Int) (out : List (Int × Int)) (x : Nat) : List (Int × Int) := chT P F out x (kids P (x : Int)).length
theorem chT_succ {P F : List Int} {out : List (Int × Int)} {x i : Nat} (hi : i < (kids P (x : Int)).length) :
    chT P F out x (i + 1) = (chT P F out x i ++ chS_ F out x (nth (kids P (x : Int)) i)) ++ chB P F out x (nth (kids P (x : Int)) i) (kids P (x : Int)).length := by
  unfold chT
  rw [List.take_succ_eq_append_getElem hi, List.flatMap_append, ← nth_eq hi, List.append_assoc]
  simp
theorem chB_succ {P F : List Int} {out : List (Int × Int)} {x k : Nat} {a : Int} (hk : k < (kids P (x : Int)).length) :
    chB P F out x a (k + 1) = chB P F out x a k ++ (if nth F a.toNat < nth F x ∧ nth F x < nth F (nth (kids P (x : Int)) k).toNat then [btw F out x a.toNat (nth (kids P (x : Int)) k).toNat] else []) := by
  unfold chB
  rw [List.take_succ_eq_append_getElem hk, List.flatMap_append, ← nth_eq hk]
  simp
theorem chB_zero (P F : List Int) (out : List (Int × Int)) (x : Nat) (a : Int) : chB P F out x a 0 = [] := rfl
theorem chT_zero (P F : List Int) (out : List (Int × Int)) (x : Nat) : chT P F out x 0 = [] := rfl
theorem mem_chL {P F : List Int} {out : List (Int × Int)} {x : Nat} {f : Int × Int} : f ∈ chL P F out x ↔ ∃ a ∈ kids P (x : Int), (nth F a.toNat = nth F x ∧ f = nP out a.toNat) ∨ ∃ b ∈ kids P (x : Int), (nth F a.toNat < nth F x ∧ nth F x < nth F b.toNat) ∧ f = btw F out x a.toNat b.toNat := by
  simp only [chL, chT, chB, chS_, List.take_length, List.mem_flatMap, List.mem_append]
  constructor
  · rintro ⟨a, ha, h | ⟨b, hb, h⟩⟩
    · split at h
      · next hs => exact ⟨a, ha, .inl ⟨hs, by simpa using h⟩⟩
      · cases h
    · split at h
      · next hs => exact ⟨a, ha, .inr ⟨b, hb, hs, by simpa using h⟩⟩
      · cases h
  · rintro ⟨a, ha, ⟨hs, rfl⟩ | ⟨b, hb, hs, rfl⟩⟩
    · exact ⟨a, ha, .inl (by rw [if_pos hs]; exact List.mem_singleton.2 rfl)⟩
    · exact ⟨a, ha, .inr ⟨b, hb, by rw [if_pos hs]; exact List.mem_singleton.2 rfl⟩⟩
/-- The program's prices at a node: first the children of the same price. -/
def imR (P F : List Int) (out : List (Int × Int)) (x : Nat) (y : Int) (k : Nat) : List (Int × Int) := ((moreL P F x).take k).map fun z => btw F out x y.toNat z.toNat
def imQ (P F : List Int) (out : List (Int × Int)) (x i : Nat) : List (Int × Int) := ((lessL P F x).take i).flatMap fun y => imR P F out x y (moreL P F x).length
def imS (P F : List Int) (out : List (Int × Int)) (x k : Nat) : List (Int × Int) := ((sameL P F x).take k).map fun y => nP out y.toNat
def imL (P F : List Int) (out : List (Int × Int)) (x : Nat) : List (Int × Int) := imS P F out x (sameL P F x).length ++ imQ P F out x (lessL P F x).length
theorem imS_succ {P F : List Int} {out : List (Int × Int)} {x k : Nat} (hk : k < (sameL P F x).length) : imS P F out x (k + 1) = imS P F out x k ++ [nP out (nth (sameL P F x) k).toNat] := by
  unfold imS
  rw [List.take_succ_eq_append_getElem hk, List.map_append, ← nth_eq hk]
  rfl
theorem imR_succ {P F : List Int} {out : List (Int × Int)} {x k : Nat} {y : Int} (hk : k < (moreL P F x).length) : imR P F out x y (k + 1) = imR P F out x y k ++ [btw F out x y.toNat (nth (moreL P F x) k).toNat] := by
  unfold imR
  rw [List.take_succ_eq_append_getElem hk, List.map_append, ← nth_eq hk]
  rfl
theorem imQ_succ {P F : List Int} {out : List (Int × Int)} {x i : Nat} (hi : i < (lessL P F x).length) : imQ P F out x (i + 1) = imQ P F out x i ++ imR P F out x (nth (lessL P F x) i) (moreL P F x).length := by
  unfold imQ
  rw [List.take_succ_eq_append_getElem hi, List.flatMap_append, ← nth_eq hi]
  simp
theorem mem_less {P F : List Int} {x : Nat} {y : Int} : y ∈ lessL P F x ↔ y ∈ kids P (x : Int) ∧ nth F y.toNat < nth F x := by simp [lessL, lessTo]
theorem mem_more {P F : List Int} {x : Nat} {y : Int} : y ∈ moreL P F x ↔ y ∈ kids P (x : Int) ∧ nth F x < nth F y.toNat := by simp [moreL, moreTo]
theorem mem_same {P F : List Int} {x : Nat} {y : Int} : y ∈ sameL P F x ↔ y ∈ kids P (x : Int) ∧ nth F y.toNat = nth F x := by simp [sameL, sameTo]
theorem mem_imL {P F : List Int} {out : List (Int × Int)} {x : Nat} {f : Int × Int} : f ∈ imL P F out x ↔ (∃ a ∈ sameL P F x, nP out a.toNat = f) ∨ ∃ a ∈ lessL P F x, ∃ b ∈ moreL P F x, btw F out x a.toNat b.toNat = f := by
  simp only [imL, imS, imQ, imR, List.take_length, List.mem_append, List.mem_map, List.mem_flatMap]
theorem mem_both {P F : List Int} {out : List (Int × Int)} {x : Nat} (f : Int × Int) : f ∈ chL P F out x ↔ f ∈ imL P F out x := by
  rw [mem_chL, mem_imL]
  constructor
  · rintro ⟨a, ha, ⟨hs, rfl⟩ | ⟨b, hb, hs, rfl⟩⟩
    · exact .inl ⟨a, mem_same.2 ⟨ha, hs⟩, rfl⟩
    · exact .inr ⟨a, mem_less.2 ⟨ha, hs.1⟩, b, mem_more.2 ⟨hb, hs.2⟩, rfl⟩
  · rintro (⟨a, ha, rfl⟩ | ⟨a, ha, b, hb, rfl⟩)
    · exact ⟨a, (mem_same.1 ha).1, .inl ⟨(mem_same.1 ha).2, rfl⟩⟩
    · exact ⟨a, (mem_less.1 ha).1, .inr ⟨b, (mem_more.1 hb).1, ⟨(mem_less.1 ha).2, (mem_more.1 hb).2⟩, rfl⟩⟩

/-- One node. -/
def stepX (up : Bool) (P F : List Int) (x : Nat) (out : List (Int × Int)) : Option (List (Int × Int)) :=
  if endB P x then some out else if (chL P F out x).all frP then some (out.set x (topOf up (chL P F out x))) else none
/-- The ends' claims. -/
def stTo (P C : List Int) : Nat → List (Int × Int)
  | 0 => List.replicate P.length (0, 0)
  | k + 1 => (stTo P C k).set (nth (endL P) k).toNat (nth C k, 1)
/-- Behind the last m nodes. -/
def stL (up : Bool) (P F C : List Int) : Nat → Option (List (Int × Int))
  | 0 => some (stTo P C (endL P).length)
  | m + 1 => (stL up P F C m).bind (stepX up P F (P.length - 1 - m))
theorem stL_none {up : Bool} {P F C : List Int} {m : Nat} (h : stL up P F C m = none) : ∀ k, m ≤ k → stL up P F C k = none
  | 0, hk => by obtain rfl : m = 0 := by omega
                exact h
  | k + 1, hk => by
    rcases Nat.eq_or_lt_of_le hk with rfl | hk
    · exact h
    · rw [stL, stL_none h k (by omega)]
      rfl
theorem stL_step {up : Bool} {P F C : List Int} {x : Nat} {out : List (Int × Int)} (hx : x < P.length) (h : stL up P F C (P.length - (x + 1)) = some out) : stL up P F C (P.length - x) = stepX up P F x out := by
  rw [show P.length - x = (P.length - (x + 1)) + 1 by omega, stL, h, show P.length - 1 - (P.length - (x + 1)) = x by omega]
  rfl
structure PrInv (P : List Int) (k : Nat) (out : List (Int × Int)) : Prop where
  len : out.length = P.length
  fr : ∀ y, y < P.length → k ≤ y ∨ endB P y = true → frP (nP out y) = true
theorem nP_set_self {l : List (Int × Int)} {k : Nat} (h : k < l.length) (f : Int × Int) : nP (l.set k f) k = f := by simp [nP, h]
theorem nP_set_ne {l : List (Int × Int)} {k j : Nat} (h : k ≠ j) (f : Int × Int) : nP (l.set k f) j = nP l j := by simp [nP, List.getElem?_set_ne h]
theorem stTo_length (P C : List Int) (k : Nat) : (stTo P C k).length = P.length := by
  induction k with
  | zero => simp [stTo]
  | succ k ih => simp [stTo, ih]
theorem claim_fr {c : Int} (h : -99 ≤ c ∧ c ≤ 99) : frP (c, 1) = true := frP_iff.2 ⟨⟨by show -1000000000 ≤ c; omega, by show c ≤ 1000000000; omega⟩, ⟨by show (1 : Int) ≤ 1; decide, by show (1 : Int) ≤ 1000000; decide⟩, gI_one c⟩
theorem stTo_fr {P C : List Int} (hc : clmB P C = true) : ∀ k, k ≤ (endL P).length → ∀ i, i < k → frP (nP (stTo P C k) (nth (endL P) i).toNat) = true
  | 0, _, i, hi => by omega
  | k + 1, hk, i, hi => by
    simp only [clmB, Bool.and_eq_true, decide_eq_true_eq] at hc
    obtain ⟨j, hj, _, he⟩ := endL_nth (P := P) (i := k) (by omega)
    rw [stTo, he, Int.toNat_natCast]
    rcases Decidable.em ((nth (endL P) i).toNat = j) with e | e
    · rw [e, nP_set_self (by rw [stTo_length]; exact hj)]
      exact claim_fr (allB_nth hc.2 (by omega))
    · rw [nP_set_ne (Ne.symm e)]
      refine stTo_fr (by simp [clmB, hc]) k (by omega) i ?_
      rcases Nat.eq_or_lt_of_le (Nat.lt_succ_iff.1 hi) with rfl | h
      · rw [he, Int.toNat_natCast] at e
        exact absurd rfl e
      · exact h
theorem inv_start {P C : List Int} (hc : clmB P C = true) : PrInv P P.length (stTo P C (endL P).length) :=
  ⟨stTo_length _ _ _, fun y hy h => by
    obtain ⟨i, hi, he⟩ := end_idx hy (h.resolve_left (by omega))
    have := stTo_fr hc _ (Nat.le_refl _) i hi
    rw [he, Int.toNat_natCast] at this
    exact this⟩
/-- A sound market's inner nodes have a price. -/
theorem chL_pos {P F : List Int} {out : List (Int × Int)} {x : Nat} (he : endB P x = false) (hu : unB P F x = false) : 0 < (chL P F out x).length := by
  have hk : kids P (x : Int) ≠ [] := fun h => by rw [(kids_nil x).1 h] at he; cases he
  obtain ⟨a, ha⟩ := List.exists_mem_of_ne_nil _ hk
  have hlm : (0 < (lessL P F x).length) ↔ (0 < (moreL P F x).length) := by
    simp only [unB, bne_eq_false_iff_eq, decide_eq_decide] at hu
    exact hu
  rcases Int.lt_trichotomy (nth F a.toNat) (nth F x) with h | h | h
  · have h1 := mem_less.2 ⟨ha, h⟩
    obtain ⟨b, hb⟩ := List.exists_mem_of_length_pos (hlm.1 (List.length_pos_of_mem h1))
    exact List.length_pos_of_mem (mem_chL.2 ⟨a, ha, .inr ⟨b, (mem_more.1 hb).1, ⟨h, (mem_more.1 hb).2⟩, rfl⟩⟩)
  · exact List.length_pos_of_mem (mem_chL.2 ⟨a, ha, .inl ⟨h, rfl⟩⟩)
  · have h1 := mem_more.2 ⟨ha, h⟩
    obtain ⟨b, hb⟩ := List.exists_mem_of_length_pos (hlm.2 (List.length_pos_of_mem h1))
    exact List.length_pos_of_mem (mem_chL.2 ⟨b, (mem_less.1 hb).1, .inr ⟨a, ha, ⟨(mem_less.1 hb).2, h⟩, rfl⟩⟩)
theorem inv_step {up : Bool} {P F : List Int} {x : Nat} {out out' : List (Int × Int)} (h : PrInv P (x + 1) out) (hx : x < P.length) (hu : unB P F x = false) (hs : stepX up P F x out = some out') : PrInv P x out' := by
  unfold stepX at hs
  split at hs
  · next he =>
    cases hs
    refine ⟨h.len, fun y hy hh => ?_⟩
    rcases Decidable.em (y = x) with rfl | hne
    · exact h.fr y hy (.inr he)
    · exact h.fr y hy (by rcases hh with hh | hh; · exact .inl (by omega)
                          · exact .inr hh)
  · next he =>
    split at hs
    · next ha =>
      cases hs
      refine ⟨by rw [List.length_set]; exact h.len, fun y hy hh => ?_⟩
      rcases Decidable.em (y = x) with rfl | hne
      · rw [nP_set_self (by rw [h.len]; exact hy)]
        exact List.all_eq_true.1 ha _ (topOf_mem (chL_pos (by simpa using he) hu))
      · rw [nP_set_ne (Ne.symm hne)]
        exact h.fr y hy (by rcases hh with hh | hh; · exact .inl (by omega)
                            · exact .inr hh)
    · cases hs
/-- The program's road: a price between that is no fraction ends all. -/
theorem step_no {up : Bool} {P F : List Int} {x : Nat} {out : List (Int × Int)} (he : endB P x = false) {a b : Int} (ha : a ∈ lessL P F x) (hb : b ∈ moreL P F x) (hn : frP (btw F out x a.toNat b.toNat) = false) : stepX up P F x out = none := by
  unfold stepX
  rw [he]
  have : (chL P F out x).all frP = false := by
    rw [List.all_eq_false]
    exact ⟨_, (mem_both _).2 (mem_imL.2 (.inr ⟨a, ha, b, hb, rfl⟩)), by rw [hn]; simp⟩
  simp [this]
theorem step_yes {up : Bool} {P F : List Int} {x : Nat} {out : List (Int × Int)} (hp : ParOk P) (h : PrInv P (x + 1) out) (he : endB P x = false) (hu : unB P F x = false)
    (hy : ∀ a ∈ lessL P F x, ∀ b ∈ moreL P F x, frP (btw F out x a.toNat b.toNat) = true) : stepX up P F x out = some (out.set x (topOf up (imL P F out x))) := by
  have hall : ∀ f ∈ chL P F out x, frP f = true := by
    intro f hf
    rcases mem_imL.1 ((mem_both f).1 hf) with ⟨a, ha, rfl⟩ | ⟨a, ha, b, hb, rfl⟩
    · have hk := kids_mem hp (mem_same.1 ha).1
      exact h.fr _ (by omega) (.inl (by omega))
    · exact hy a ha b hb
  unfold stepX
  rw [he, List.all_eq_true.2 hall, topOf_congr mem_both hall (chL_pos he hu)]
  rfl
theorem step_end {up : Bool} {P F : List Int} {x : Nat} {out : List (Int × Int)} (he : endB P x = true) : stepX up P F x out = some out := by simp [stepX, he]
/-- Whether there are prices, and these. -/
def prB (up : Bool) (P W F C : List Int) : Bool := mktB P W F && clmB P C && decide (unK P F = -1) && (stL up P F C P.length).isSome
def prV (up : Bool) (P W F C : List Int) : List (Int × Int) := if prB up P W F C then (stL up P F C P.length).getD [] else []
end Go.Proofs.Ytnhclpajfejnoaa
