/- Hedging, plainly: prices as rationals; what attains its choices is below what dominates them. -/
import Derived.Test.YtnhclpajfejnoaaPrL
import Derived.Test.YtnhclpajfejnoaaPrE
namespace Go.Proofs.Ytnhclpajfejnoaa

def val (f : Int × Int) : Rat := (f.1 : Rat) / (f.2 : Rat)
theorem ratpos {q : Int} (h : 0 < q) : (0 : Rat) < (q : Rat) := by exact_mod_cast h
theorem div_lt_iff {a b c d : Rat} (hb : 0 < b) (hd : 0 < d) : a / b < c / d ↔ a * d < c * b := by
  have e : c / d - a / b = (c * b - a * d) / (b * d) := by
    have h1 : b ≠ 0 := by grind
    have h2 : d ≠ 0 := by grind
    grind
  have hbd : 0 < b * d := Rat.mul_pos hb hd
  have hi : 0 < (b * d)⁻¹ := Rat.inv_pos.2 hbd
  have h3 : (c * b - a * d) / (b * d) = (c * b - a * d) * (b * d)⁻¹ := Rat.div_def _ _
  constructor
  · intro h
    have h4 : 0 < (c * b - a * d) * (b * d)⁻¹ := by rw [← h3, ← e]; grind
    have h5 : 0 < c * b - a * d := by
      rcases Classical.em (0 < c * b - a * d) with h | h
      · exact h
      · have h6 : (c * b - a * d) ≤ 0 := by grind
        have h7 := Rat.mul_le_mul_of_nonneg_right h6 (Rat.le_of_lt hi)
        grind
    grind
  · intro h
    have h5 : 0 < (c * b - a * d) := by grind
    have h6 := Rat.mul_pos h5 hi
    rw [← h3, ← e] at h6
    grind
theorem val_lt {f g : Int × Int} (hf : 0 < f.2) (hg : 0 < g.2) : val f < val g ↔ f.1 * g.2 < g.1 * f.2 := by
  unfold val
  rw [div_lt_iff (ratpos hf) (ratpos hg)]
  constructor
  · intro h; exact_mod_cast h
  · intro h; exact_mod_cast h
theorem val_eq {f g : Int × Int} (hf : 0 < f.2) (hg : 0 < g.2) : val f = val g ↔ f.1 * g.2 = g.1 * f.2 := by
  constructor
  · intro h
    have h1 : ¬ val f < val g := by grind
    have h2 : ¬ val g < val f := by grind
    rw [val_lt hf hg] at h1
    rw [val_lt hg hf] at h2
    omega
  · intro h
    have h1 : ¬ val f < val g := by rw [val_lt hf hg]; omega
    have h2 : ¬ val g < val f := by rw [val_lt hg hf]; omega
    grind
theorem val_int (c : Int) : val (c, 1) = (c : Rat) := by
  unfold val
  show (c : Rat) / ((1 : Int) : Rat) = c
  have : ((1 : Int) : Rat) = 1 := rfl
  rw [this]
  grind
/-- Two kids' values meet at their parent's price. -/
def mix (F : List Int) (v : Nat → Rat) (x a b : Nat) : Rat := (v a * ((nth F b : Rat) - (nth F x : Rat)) + v b * ((nth F x : Rat) - (nth F a : Rat))) / ((nth F b : Rat) - (nth F a : Rat))
/-- A node's kids. -/
def Kid (P : List Int) (x a : Nat) : Prop := (a : Int) ∈ kids P (x : Int)
def Att (P F : List Int) (v : Nat → Rat) (x : Nat) : Prop := ∃ a, Kid P x a ∧ ((nth F a = nth F x ∧ v x = v a) ∨ ∃ b, Kid P x b ∧ nth F a < nth F x ∧ nth F x < nth F b ∧ v x = mix F v x a b)
/-- No choice is more (up) than the value, or less. -/
def DomU (P F : List Int) (v : Nat → Rat) (x : Nat) : Prop := ∀ a, Kid P x a → (nth F a = nth F x → v a ≤ v x) ∧ ∀ b, Kid P x b → nth F a < nth F x → nth F x < nth F b → mix F v x a b ≤ v x
def DomL (P F : List Int) (v : Nat → Rat) (x : Nat) : Prop := ∀ a, Kid P x a → (nth F a = nth F x → v x ≤ v a) ∧ ∀ b, Kid P x b → nth F a < nth F x → nth F x < nth F b → v x ≤ mix F v x a b
theorem ilt {a b : Int} (h : a < b) : (a : Rat) < (b : Rat) := by exact_mod_cast h
theorem div_le_div {a b d : Rat} (hd : 0 < d) (h : a ≤ b) : a / d ≤ b / d := by
  rw [Rat.div_def, Rat.div_def]
  exact Rat.mul_le_mul_of_nonneg_right h (Rat.le_of_lt (Rat.inv_pos.2 hd))
theorem mix_mono {F : List Int} {v v' : Nat → Rat} {x a b : Nat} (h1 : nth F a < nth F x) (h2 : nth F x < nth F b) (ha : v a ≤ v' a) (hb : v b ≤ v' b) : mix F v x a b ≤ mix F v' x a b := by
  have k1 := ilt h1
  have k2 := ilt h2
  unfold mix
  generalize (nth F a : Rat) = p at *
  generalize (nth F x : Rat) = q at *
  generalize (nth F b : Rat) = r at *
  refine div_le_div (by grind) ?_
  have m1 := Rat.mul_le_mul_of_nonneg_right ha (show 0 ≤ r - q by grind)
  have m2 := Rat.mul_le_mul_of_nonneg_right hb (show 0 ≤ q - p by grind)
  grind
theorem kid_gt {P : List Int} (hp : ParOk P) {x a : Nat} (h : Kid P x a) : x < a ∧ a < P.length := by
  have := kids_mem hp h
  omega
/-- What attains its choices is no more than what dominates them. -/
theorem att_dom {P F : List Int} (hp : ParOk P) {v v' : Nat → Rat} (hA : ∀ x, x < P.length → endB P x = false → Att P F v x) (hD : ∀ x, x < P.length → endB P x = false → DomU P F v' x)
    (he : ∀ x, x < P.length → endB P x = true → v x ≤ v' x) : ∀ n x, P.length - x ≤ n → x < P.length → v x ≤ v' x := by
  intro n
  induction n with
  | zero => intro x h1 h2; omega
  | succ n ih =>
    intro x h1 h2
    cases hx : endB P x
    · obtain ⟨a, ka, h⟩ := hA x h2 hx
      have ga := kid_gt hp ka
      have ia := ih a (by omega) ga.2
      have da := hD x h2 hx a ka
      rcases h with ⟨e, hv⟩ | ⟨b, kb, l1, l2, hv⟩
      · have := da.1 e
        grind
      · have gb := kid_gt hp kb
        have ib := ih b (by omega) gb.2
        have db := da.2 b kb l1 l2
        have := mix_mono l1 l2 ia ib
        grind
    · exact he x h2 hx
theorem dom_att {P F : List Int} (hp : ParOk P) {v v' : Nat → Rat} (hA : ∀ x, x < P.length → endB P x = false → Att P F v' x) (hD : ∀ x, x < P.length → endB P x = false → DomL P F v x)
    (he : ∀ x, x < P.length → endB P x = true → v x ≤ v' x) : ∀ n x, P.length - x ≤ n → x < P.length → v x ≤ v' x := by
  intro n
  induction n with
  | zero => intro x h1 h2; omega
  | succ n ih =>
    intro x h1 h2
    cases hx : endB P x
    · obtain ⟨a, ka, h⟩ := hA x h2 hx
      have ga := kid_gt hp ka
      have ia := ih a (by omega) ga.2
      have da := hD x h2 hx a ka
      rcases h with ⟨e, hv⟩ | ⟨b, kb, l1, l2, hv⟩
      · have := da.1 e
        grind
      · have gb := kid_gt hp kb
        have ib := ih b (by omega) gb.2
        have db := da.2 b kb l1 l2
        have := mix_mono l1 l2 ia ib
        grind
    · exact he x h2 hx
theorem mix_ext {F : List Int} {v v' : Nat → Rat} {x a b : Nat} (ha : v a = v' a) (hb : v b = v' b) : mix F v x a b = mix F v' x a b := by
  unfold mix; rw [ha, hb]
/-- Straight lines go through the prices. -/
theorem mix_line {F : List Int} {v : Nat → Rat} {x a b : Nat} (s c : Rat) (h1 : nth F a < nth F x) (h2 : nth F x < nth F b) (ha : v a = c + s * ((nth F a : Rat) - (nth F x : Rat))) (hb : v b = c + s * ((nth F b : Rat) - (nth F x : Rat))) : mix F v x a b = c := by
  have k1 := ilt h1
  have k2 := ilt h2
  unfold mix
  rw [ha, hb]
  generalize (nth F a : Rat) = p at *
  generalize (nth F x : Rat) = q at *
  generalize (nth F b : Rat) = r at *
  have : r - p ≠ 0 := by grind
  grind
theorem mix_shift {F : List Int} {v v' : Nat → Rat} {x a b : Nat} (k : Rat) (h1 : nth F a < nth F x) (h2 : nth F x < nth F b) (ha : v' a = v a + (nth F a : Rat) - k) (hb : v' b = v b + (nth F b : Rat) - k) : mix F v' x a b = mix F v x a b + (nth F x : Rat) - k := by
  have k1 := ilt h1
  have k2 := ilt h2
  unfold mix
  rw [ha, hb]
  generalize (nth F a : Rat) = p at *
  generalize (nth F x : Rat) = q at *
  generalize (nth F b : Rat) = r at *
  have : r - p ≠ 0 := by grind
  grind

/-- What the filling in of prices comes to. -/
structure Prcs (up : Bool) (P F C : List Int) (out : List (Int × Int)) : Prop where
  len : out.length = P.length
  fr : ∀ x, x < P.length → frP (nP out x) = true
  ends : ∀ i, i < (endL P).length → nP out (nth (endL P) i).toNat = (nth C i, 1)
  inn : ∀ x, x < P.length → endB P x = false → nP out x ∈ chL P F out x ∧ ∀ f ∈ chL P F out x, betP up f (nP out x) = false
theorem btw_congr {F : List Int} {out out' : List (Int × Int)} {x a b : Nat} (ha : nP out a = nP out' a) (hb : nP out b = nP out' b) : btw F out x a b = btw F out' x a b := by
  have t : ∀ k, pT out k = (nP out k).1 ∧ pB out k = (nP out k).2 ∧ pT out' k = (nP out' k).1 ∧ pB out' k = (nP out' k).2 := fun k => ⟨rfl, rfl, rfl, rfl⟩
  unfold btw btX btY
  rw [(t a).1, (t a).2.1, (t b).1, (t b).2.1, (t a).2.2.1, (t a).2.2.2, (t b).2.2.1, (t b).2.2.2, ha, hb]
theorem chL_sub {P F : List Int} {out out' : List (Int × Int)} {x : Nat} (h : ∀ a ∈ kids P (x : Int), nP out a.toNat = nP out' a.toNat) {f : Int × Int} (hf : f ∈ chL P F out x) : f ∈ chL P F out' x := by
  obtain ⟨a, ha, h1⟩ := mem_chL.1 hf
  refine mem_chL.2 ⟨a, ha, ?_⟩
  rcases h1 with ⟨e, rfl⟩ | ⟨b, hb, l, rfl⟩
  · exact .inl ⟨e, h a ha⟩
  · exact .inr ⟨b, hb, l, btw_congr (h a ha) (h b hb)⟩
structure PrcAt (up : Bool) (P F C : List Int) (k : Nat) (out : List (Int × Int)) : Prop where
  inv : PrInv P k out
  ends : ∀ i, i < (endL P).length → nP out (nth (endL P) i).toNat = (nth C i, 1)
  inn : ∀ x, k ≤ x → x < P.length → endB P x = false → nP out x ∈ chL P F out x ∧ ∀ f ∈ chL P F out x, betP up f (nP out x) = false
theorem stTo_ends {P C : List Int} : ∀ k, k ≤ (endL P).length → ∀ i, i < k → nP (stTo P C k) (nth (endL P) i).toNat = (nth C i, 1) := by
  intro k
  induction k with
  | zero => intro _ i hi; omega
  | succ k ih =>
    intro hk i hi
    obtain ⟨j, hj, _, he⟩ := endL_nth (P := P) (i := k) (by omega)
    rw [stTo, he, Int.toNat_natCast]
    rcases Decidable.em ((nth (endL P) i).toNat = j) with e | e
    · obtain ⟨j', hj', _, he'⟩ := endL_nth (P := P) (i := i) (by omega)
      have : i = k := endL_inj (P := P) (by omega) (by omega) (by rw [he, he'] ; rw [he'] at e; simp at e; rw [e])
      rw [e, nP_set_self (by rw [stTo_length]; exact hj), this]
    · rw [nP_set_ne (Ne.symm e)]
      refine ih (by omega) i ?_
      rcases Nat.eq_or_lt_of_le (Nat.lt_succ_iff.1 hi) with rfl | h
      · rw [he, Int.toNat_natCast] at e
        exact absurd rfl e
      · exact h
theorem prc_at {up : Bool} {P W F C : List Int} (h : PrOk P W F C) : ∀ m out, m ≤ P.length → stL up P F C m = some out → PrcAt up P F C (P.length - m) out := by
  have hp := h.tree.par
  intro m
  induction m with
  | zero =>
    intro out _ hs
    rw [stL] at hs
    cases hs
    refine ⟨inv_start h.clm, fun i hi => stTo_ends _ (Nat.le_refl _) i hi, fun x h1 h2 _ => by omega⟩
  | succ m ih =>
    intro out' hm hs
    rw [stL] at hs
    cases ho : stL up P F C m with
    | none => rw [ho] at hs; cases hs
    | some out =>
      rw [ho] at hs
      have A := ih out (by omega) ho
      change stepX up P F (P.length - 1 - m) out = some out' at hs
      obtain ⟨x, hx⟩ : ∃ x, x = P.length - 1 - m := ⟨_, rfl⟩
      have e1 : P.length - m = x + 1 := by omega
      have e2 : P.length - (m + 1) = x := by omega
      rw [← hx] at hs
      rw [e1] at A
      rw [e2]
      have hxl : x < P.length := by omega
      have I := inv_step A.inv hxl (h.un x hxl) hs
      unfold stepX at hs
      split at hs
      · next he =>
        cases hs
        refine ⟨I, A.ends, fun y h1 h2 h3 => ?_⟩
        rcases Nat.eq_or_lt_of_le h1 with rfl | h1
        · rw [he] at h3; cases h3
        · exact A.inn y h1 h2 h3
      · next he =>
        have he' : endB P x = false := by simpa using he
        split at hs
        · next ha =>
          cases hs
          have hne : ∀ y, y ≠ x → nP (out.set x (topOf up (chL P F out x))) y = nP out y := fun y hy => nP_set_ne (Ne.symm hy) _
          have hpos := chL_pos (out := out) he' (h.un x hxl)
          have kk : ∀ y, x ≤ y → ∀ a ∈ kids P (y : Int), nP out a.toNat = nP (out.set x (topOf up (chL P F out x))) a.toNat := fun y hy a ha => by
            have := kids_mem hp ha
            exact (hne _ (by omega)).symm
          have kk' : ∀ y, x ≤ y → ∀ a ∈ kids P (y : Int), nP (out.set x (topOf up (chL P F out x))) a.toNat = nP out a.toNat := fun y hy a ha => (kk y hy a ha).symm
          refine ⟨I, fun i hi => ?_, fun y h1 h2 h3 => ?_⟩
          · obtain ⟨j, hj, hje, hj2⟩ := endL_nth (P := P) hi
            have := A.ends i hi
            rw [hj2, Int.toNat_natCast] at this ⊢
            rw [hne j (fun e => by rw [e, he'] at hje; cases hje)]
            exact this
          · rcases Nat.eq_or_lt_of_le h1 with rfl | h1
            · have hall : ∀ f ∈ chL P F out x, 0 < f.2 := fun f hf => by
                have := frP_iff.1 (List.all_eq_true.1 ha f hf)
                omega
              rw [nP_set_self (by rw [A.inv.len]; exact h2)]
              exact ⟨chL_sub (kk x (Nat.le_refl _)) (topOf_mem hpos), fun f hf => topOf_max hall (chL_sub (kk' x (Nat.le_refl _)) hf)⟩
            · rw [hne y (by omega)]
              have := A.inn y h1 h2 h3
              exact ⟨chL_sub (kk y (by omega)) this.1, fun f hf => this.2 f (chL_sub (kk' y (by omega)) hf)⟩
        · cases hs
theorem prcs_of {up : Bool} {P W F C : List Int} (h : prB up P W F C = true) : Prcs up P F C (prV up P W F C) ∧ PrOk P W F C := by
  have hh := h
  simp only [prB, Bool.and_eq_true] at h
  have hs : sndB P W F = true := by simp only [sndB, Bool.and_eq_true]; exact ⟨h.1.1.1, h.1.2⟩
  have hk := prok_of hs h.1.1.2
  obtain ⟨out, ho⟩ := Option.isSome_iff_exists.1 h.2
  have A := prc_at hk P.length out (Nat.le_refl _) ho
  rw [Nat.sub_self] at A
  have e : prV up P W F C = out := by rw [prV, if_pos hh, ho]; rfl
  rw [e]
  exact ⟨⟨A.inv.len, fun x hx => A.inv.fr x hx (.inl (by omega)), A.ends, fun x hx he => A.inn x (by omega) hx he⟩, hk⟩
def vl (out : List (Int × Int)) (x : Nat) : Rat := val (nP out x)
theorem fr_pos {f : Int × Int} (h : frP f = true) : 0 < f.2 := by have := frP_iff.1 h; omega
theorem val_btw {F : List Int} {out : List (Int × Int)} {x a b : Nat} (h1 : nth F a < nth F x) (h2 : nth F x < nth F b) (ha : 0 < pB out a) (hb : 0 < pB out b) : val (btw F out x a b) = mix F (vl out) x a b := by
  have hY : 0 < btY F out x a b := by
    unfold btY
    exact Int.mul_pos (Int.mul_pos (by omega) ha) hb
  have hc := cut_cross (btX F out x a b) (btY F out x a b)
  have hq := cutB_pos (a := btX F out x a b) hY
  have e1 : val (btw F out x a b) = val (btX F out x a b, btY F out x a b) := (val_eq (f := btw F out x a b) (g := (btX F out x a b, btY F out x a b)) hq hY).2 hc
  rw [e1]
  have k1 := ilt h1
  have k2 := ilt h2
  have q1 := ratpos ha
  have q2 := ratpos hb
  unfold mix vl val btX btY
  show ((pT out a * (nth F b - nth F x) * pB out b + pT out b * (nth F x - nth F a) * pB out a : Int) : Rat) / (((nth F b - nth F a) * pB out a * pB out b : Int) : Rat) = ((pT out a : Rat) / (pB out a : Rat) * ((nth F b : Rat) - (nth F x : Rat)) + (pT out b : Rat) / (pB out b : Rat) * ((nth F x : Rat) - (nth F a : Rat))) / ((nth F b : Rat) - (nth F a : Rat))
  push_cast
  generalize (nth F a : Rat) = p at *
  generalize (nth F x : Rat) = q at *
  generalize (nth F b : Rat) = r at *
  generalize (pT out a : Rat) = t1 at *
  generalize (pT out b : Rat) = t2 at *
  generalize (pB out a : Rat) = s1 at *
  generalize (pB out b : Rat) = s2 at *
  have n1 : r - p ≠ 0 := by grind
  have n2 : s1 ≠ 0 := by grind
  have n3 : s2 ≠ 0 := by grind
  grind
section
variable {up : Bool} {P F C : List Int} {out : List (Int × Int)}
theorem Prcs.pos (h : Prcs up P F C out) {x : Nat} (hx : x < P.length) : 0 < pB out x := fr_pos (h.fr x hx)
theorem Prcs.att (h : Prcs up P F C out) (hp : ParOk P) {x : Nat} (hx : x < P.length) (he : endB P x = false) : Att P F (vl out) x := by
  obtain ⟨a, ha, h1⟩ := mem_chL.1 (h.inn x hx he).1
  have ka := kids_mem hp ha
  obtain ⟨a', rfl⟩ : ∃ a' : Nat, a = (a' : Int) := ⟨a.toNat, by omega⟩
  rw [Int.toNat_natCast] at h1
  refine ⟨a', ha, ?_⟩
  rcases h1 with ⟨e, e2⟩ | ⟨b, hb, l, e2⟩
  · exact .inl ⟨e, by unfold vl; rw [e2]⟩
  · have kb := kids_mem hp hb
    obtain ⟨b', rfl⟩ : ∃ b' : Nat, b = (b' : Int) := ⟨b.toNat, by omega⟩
    rw [Int.toNat_natCast] at l e2
    exact .inr ⟨b', hb, l.1, l.2, by rw [← val_btw l.1 l.2 (h.pos (by omega)) (h.pos (by omega)), ← e2]; rfl⟩
theorem btw_pos {x a b : Nat} (h1 : nth F a < nth F x) (h2 : nth F x < nth F b) (ha : 0 < pB out a) (hb : 0 < pB out b) : 0 < (btw F out x a b).2 := by
  have hY : 0 < btY F out x a b := by
    unfold btY
    exact Int.mul_pos (Int.mul_pos (by omega) ha) hb
  exact cutB_pos hY
theorem Prcs.domU (h : Prcs true P F C out) (hp : ParOk P) {x : Nat} (hx : x < P.length) (he : endB P x = false) : DomU P F (vl out) x := by
  intro a ka
  have ga := kid_gt hp ka
  have hb := (h.inn x hx he).2
  have hpx := h.pos hx
  refine ⟨fun e => ?_, fun b kb l1 l2 => ?_⟩
  · have := hb _ (mem_chL.2 ⟨(a : Int), ka, .inl ⟨by rw [Int.toNat_natCast]; exact e, rfl⟩⟩)
    rw [Int.toNat_natCast] at this
    have h1 : ¬ val (nP out x) < val (nP out a) := by
      rw [val_lt (f := nP out x) (g := nP out a) hpx (h.pos ga.2)]
      simpa [betP, lessP] using this
    unfold vl
    grind
  · have gb := kid_gt hp kb
    have := hb _ (mem_chL.2 ⟨(a : Int), ka, .inr ⟨(b : Int), kb, by rw [Int.toNat_natCast, Int.toNat_natCast]; exact ⟨l1, l2⟩, rfl⟩⟩)
    rw [Int.toNat_natCast, Int.toNat_natCast] at this
    rw [← val_btw l1 l2 (h.pos ga.2) (h.pos gb.2)]
    have h1 : ¬ val (nP out x) < val (btw F out x a b) := by
      rw [val_lt (f := nP out x) (g := btw F out x a b) hpx (btw_pos l1 l2 (h.pos ga.2) (h.pos gb.2))]
      simpa [betP, lessP] using this
    unfold vl
    grind
theorem Prcs.domL (h : Prcs false P F C out) (hp : ParOk P) {x : Nat} (hx : x < P.length) (he : endB P x = false) : DomL P F (vl out) x := by
  intro a ka
  have ga := kid_gt hp ka
  have hb := (h.inn x hx he).2
  have hpx := h.pos hx
  refine ⟨fun e => ?_, fun b kb l1 l2 => ?_⟩
  · have := hb _ (mem_chL.2 ⟨(a : Int), ka, .inl ⟨by rw [Int.toNat_natCast]; exact e, rfl⟩⟩)
    rw [Int.toNat_natCast] at this
    have h1 : ¬ val (nP out a) < val (nP out x) := by
      rw [val_lt (f := nP out a) (g := nP out x) (h.pos ga.2) hpx]
      simpa [betP, lessP] using this
    unfold vl
    grind
  · have gb := kid_gt hp kb
    have := hb _ (mem_chL.2 ⟨(a : Int), ka, .inr ⟨(b : Int), kb, by rw [Int.toNat_natCast, Int.toNat_natCast]; exact ⟨l1, l2⟩, rfl⟩⟩)
    rw [Int.toNat_natCast, Int.toNat_natCast] at this
    rw [← val_btw l1 l2 (h.pos ga.2) (h.pos gb.2)]
    have h1 : ¬ val (btw F out x a b) < val (nP out x) := by
      rw [val_lt (f := btw F out x a b) (g := nP out x) (btw_pos l1 l2 (h.pos ga.2) (h.pos gb.2)) hpx]
      simpa [betP, lessP] using this
    unfold vl
    grind
theorem Prcs.end_ (h : Prcs up P F C out) {x : Nat} (hx : x < P.length) (he : endB P x = true) : ∃ i, i < (endL P).length ∧ nth (endL P) i = (x : Int) ∧ vl out x = (nth C i : Rat) := by
  obtain ⟨i, hi, e⟩ := end_idx hx he
  refine ⟨i, hi, e, ?_⟩
  have := h.ends i hi
  rw [e, Int.toNat_natCast] at this
  unfold vl
  rw [this, val_int]
end
end Go.Proofs.Ytnhclpajfejnoaa
