/- Prices and means, plainly: hedges, full markets, fair weights. -/
import Derived.Test.YtnhclpajfejnoaaCaL
import Derived.Test.YtnhclpajfejnoaaSumL
import Derived.Test.YtnhclpajfejnoaaClA
import Derived.Test.YtnhclpajfejnoaaFuW
namespace Go.Proofs.Ytnhclpajfejnoaa

/-- Weights gathered: what a node has is its own and its children's. -/
theorem gatY_tl {P xs : List Int} (hp : ParOk P) (hl : xs.length = P.length) : ∀ d y, y + d = xs.length - 1 → ∀ x, nth (gatY P xs y) x = nth xs x + sN (fun z => if y < z ∧ nth P z = (x : Int) then nth (gatY P xs y) z else 0) xs.length := by
  intro d
  induction d with
  | zero =>
    intro y hy x
    obtain rfl : y = xs.length - 1 := by omega
    rw [gatY_last, sN_zero, Int.add_zero]
    intro i hi
    rw [if_neg (by omega)]
  | succ d ih =>
    intro y hy x
    have h := ih (y + 1) (by omega)
    obtain ⟨p, hpy, hpl⟩ : ∃ p : Nat, nth P (y + 1) = (p : Int) ∧ p < y + 1 := by
      have := hp.up (y + 1) (by omega) (by omega)
      exact ⟨(nth P (y + 1)).toNat, by omega, by omega⟩
    have hst := gatY_step (P := P) (xs := xs) (y := y + 1) (by omega) (by omega) hpy
    rw [show y + 1 - 1 = y by omega] at hst
    have hlen := gatY_length P xs (y + 1)
    have same : ∀ z, z ≠ p → nth (gatY P xs y) z = nth (gatY P xs (y + 1)) z := fun z hz => by rw [hst, nth_set_ne (Ne.symm hz)]
    rcases Decidable.em (x = p) with rfl | hx
    · have hself : nth (gatY P xs y) x = nth (gatY P xs (y + 1)) x + nth (gatY P xs (y + 1)) (y + 1) := by rw [hst, nth_set_self (by omega)]
      rw [hself, h x, Int.add_assoc]
      congr 1
      have e : sN (fun z => if y < z ∧ nth P z = (x : Int) then nth (gatY P xs y) z else 0) xs.length =
          sN (fun z => (if y + 1 < z ∧ nth P z = (x : Int) then nth (gatY P xs (y + 1)) z else 0) + (if z = y + 1 then nth (gatY P xs (y + 1)) (y + 1) else 0)) xs.length := by
        apply sN_congr
        intro z _
        rcases Nat.lt_trichotomy z (y + 1) with h1 | rfl | h1
        · rw [if_neg (by omega), if_neg (by omega), if_neg (by omega)]
          rfl
        · rw [if_pos ⟨by omega, hpy⟩, if_neg (by omega), if_pos rfl, same (y + 1) (by omega), Int.zero_add]
        · rw [if_neg (show ¬ z = y + 1 by omega), Int.add_zero]
          by_cases hz : nth P z = (x : Int)
          · rw [if_pos ⟨by omega, hz⟩, if_pos ⟨h1, hz⟩, same z (by omega)]
          · rw [if_neg (fun h => hz h.2), if_neg (fun h => hz h.2)]
      rw [e, sN_add]
      congr 1
      rw [sN_one (k := y + 1) (by omega) (fun i _ hi => by rw [if_neg hi]), if_pos rfl]
    · rw [same x hx, h x]
      congr 1
      apply sN_congr
      intro z _
      by_cases hz : nth P z = (x : Int)
      · have hzy : z ≠ y + 1 := fun e => by rw [e, hpy] at hz; omega
        by_cases h1 : y < z
        · rw [if_pos ⟨by omega, hz⟩, if_pos ⟨h1, hz⟩, same z (by omega)]
        · rw [if_neg (by omega), if_neg (by omega)]
      · rw [if_neg (fun h => hz h.2), if_neg (fun h => hz h.2)]
theorem wlL_pre (P F H : List Int) (s : Int) (m i : Nat) (hi : i ≤ m) : nth (wlL P F H s m) i = nth (wlL P F H s i) i := by
  induction m with
  | zero =>
    obtain rfl : i = 0 := by omega
    rfl
  | succ m ih =>
    rcases Nat.eq_or_lt_of_le hi with rfl | h
    · rfl
    · rw [wlL, nth_app_l (by rw [wlL_length]; omega)]
      exact ih (by omega)
theorem wl_zero (P F H : List Int) (s : Int) : nth (wl P F H s) 0 = s := by
  rw [wl, wlL_pre _ _ _ _ _ _ (Nat.zero_le _)]
  rfl
theorem wl_kid {P F H : List Int} {s : Int} (hp : ParOk P) {x y : Nat} (h : Kid P x y) : nth (wl P F H s) y = nth (wl P F H s) x + nth H x * (nth F y - nth F x) := by
  have hk := kid_gt hp h
  obtain ⟨j, hj, hpj, e⟩ := mem_kidTo.1 h
  have e : y = j := by omega
  subst e
  obtain ⟨m, rfl⟩ : ∃ m, y = m + 1 := ⟨y - 1, by omega⟩
  rw [wl, wlL_pre _ _ _ _ _ (m + 1) (by omega), wlL_pre _ _ _ _ _ x (by omega), wlL, nth_app_r _ _ _ (by rw [wlL_length]), hpj, Int.toNat_natCast, wlL_pre _ _ _ _ m x (by omega)]
section
variable {P W F H C : List Int} {s : Int}
/-- A hedge's wealth runs straight through the prices. -/
theorem wl_mix (hp : ParOk P) {x a b : Nat} (ka : Kid P x a) (kb : Kid P x b) (l1 : nth F a < nth F x) (l2 : nth F x < nth F b) : mix F (fun y => (nth (wl P F H s) y : Rat)) x a b = (nth (wl P F H s) x : Rat) := by
  have e1 := wl_kid (F := F) (H := H) (s := s) hp ka
  have e2 := wl_kid (F := F) (H := H) (s := s) hp kb
  refine mix_line (nth H x : Rat) (nth (wl P F H s) x : Rat) l1 l2 ?_ ?_
  · show (nth (wl P F H s) a : Rat) = _
    rw [e1, Rat.intCast_add, Rat.intCast_mul, Rat.intCast_sub]
  · show (nth (wl P F H s) b : Rat) = _
    rw [e2, Rat.intCast_add, Rat.intCast_mul, Rat.intCast_sub]
theorem wl_same (hp : ParOk P) {x a : Nat} (ka : Kid P x a) (e : nth F a = nth F x) : nth (wl P F H s) a = nth (wl P F H s) x := by
  rw [wl_kid hp ka, e, Int.sub_self, Int.mul_zero, Int.add_zero]
theorem wl_domU (hp : ParOk P) (x : Nat) : DomU P F (fun y => (nth (wl P F H s) y : Rat)) x := fun a ka =>
  ⟨fun e => by show (nth (wl P F H s) a : Rat) ≤ nth (wl P F H s) x; rw [wl_same hp ka e]; exact Rat.le_refl, fun b kb l1 l2 => by rw [wl_mix hp ka kb l1 l2]; exact Rat.le_refl⟩
theorem wl_domL (hp : ParOk P) (x : Nat) : DomL P F (fun y => (nth (wl P F H s) y : Rat)) x := fun a ka =>
  ⟨fun e => by show (nth (wl P F H s) x : Rat) ≤ nth (wl P F H s) a; rw [wl_same hp ka e]; exact Rat.le_refl, fun b kb l1 l2 => by rw [wl_mix hp ka kb l1 l2]; exact Rat.le_refl⟩
theorem end_wl {up : Bool} {out : List (Int × Int)} (R : Prcs up P F C out) {x : Nat} (hx : x < P.length) (he : endB P x = true) : ∃ i, i < (endL P).length ∧ wlE P F H s i = nth (wl P F H s) x ∧ vl out x = (nth C i : Rat) := by
  obtain ⟨i, hi, e, hv⟩ := R.end_ hx he
  exact ⟨i, hi, by rw [wlE, e, Int.toNat_natCast], hv⟩
theorem ile {a b : Int} (h : a ≤ b) : (a : Rat) ≤ (b : Rat) := by exact_mod_cast h
/-- A hedge that covers starts with no less than the upper price. -/
theorem cover_law (h : prB true P W F C = true) (hc : ∀ i, i < (endL P).length → nth C i ≤ wlE P F H s i) : decide (s * (nP (prV true P W F C) 0).2 < (nP (prV true P W F C) 0).1 * 1) = false := by
  obtain ⟨R, K⟩ := prcs_of h
  have hp := K.tree.par
  have h0 : 0 < P.length := by have := K.tree.n1; omega
  have h1 := att_dom hp (fun x hx he => R.att hp hx he) (fun x _ _ => wl_domU (F := F) (H := H) (s := s) hp x) (fun y hy he => by
    obtain ⟨i, hi, e, hv⟩ := end_wl (H := H) (s := s) R hy he
    rw [hv]
    exact ile (by rw [← e]; exact hc i hi)) _ 0 (Nat.le_refl _) h0
  rw [wl_zero] at h1
  have h2 : ¬ val (s, 1) < val (nP (prV true P W F C) 0) := by rw [val_int]; unfold vl at h1; grind
  rw [val_lt (f := (s, 1)) (g := nP (prV true P W F C) 0) (show (0 : Int) < 1 by decide) (fr_pos (R.fr 0 h0))] at h2
  exact decide_eq_false h2
theorem match_up (h : prB true P W F C = true) (hs : -999 ≤ s ∧ s ≤ 999) (hc : ∀ i, i < (endL P).length → wlE P F H s i = nth C i) : nP (prV true P W F C) 0 = (s, 1) := by
  obtain ⟨R, K⟩ := prcs_of h
  have hp := K.tree.par
  have h0 : 0 < P.length := by have := K.tree.n1; omega
  have he := fun y hy he => end_wl (H := H) (s := s) R (x := y) hy he
  have h1 := att_dom hp (fun x hx he => R.att hp hx he) (fun x _ _ => wl_domU (F := F) (H := H) (s := s) hp x) (fun y hy e => by
    obtain ⟨i, hi, e, hv⟩ := he y hy e
    rw [hv, ← e, hc i hi]
    exact Rat.le_refl) _ 0 (Nat.le_refl _) h0
  have h2 := dom_att hp (fun x hx he => R.att hp hx he) (fun x _ _ => wl_domL (F := F) (H := H) (s := s) hp x) (fun y hy e => by
    obtain ⟨i, hi, e, hv⟩ := he y hy e
    rw [hv, ← e, hc i hi]
    exact Rat.le_refl) _ 0 (Nat.le_refl _) h0
  rw [wl_zero] at h1 h2
  have h3 : val (nP (prV true P W F C) 0) = val (s, 1) := by rw [val_int]; unfold vl at h1 h2; grind
  exact fr_eq (R.fr 0 h0) (frP_iff.2 ⟨⟨by show -1000000000 ≤ s; omega, by show s ≤ 1000000000; omega⟩, ⟨by show (1 : Int) ≤ 1; decide, by show (1 : Int) ≤ 1000000; decide⟩, gI_one s⟩) ((val_eq (f := nP _ 0) (g := (s, 1)) (fr_pos (R.fr 0 h0)) (show (0 : Int) < 1 by decide)).1 h3)
theorem match_lo (h : prB false P W F C = true) (hs : -999 ≤ s ∧ s ≤ 999) (hc : ∀ i, i < (endL P).length → wlE P F H s i = nth C i) : nP (prV false P W F C) 0 = (s, 1) := by
  obtain ⟨R, K⟩ := prcs_of h
  have hp := K.tree.par
  have h0 : 0 < P.length := by have := K.tree.n1; omega
  have he := fun y hy he => end_wl (H := H) (s := s) R (x := y) hy he
  have h1 := att_dom hp (fun x hx he => R.att hp hx he) (fun x _ _ => wl_domU (F := F) (H := H) (s := s) hp x) (fun y hy e => by
    obtain ⟨i, hi, e, hv⟩ := he y hy e
    rw [hv, ← e, hc i hi]
    exact Rat.le_refl) _ 0 (Nat.le_refl _) h0
  have h2 := dom_att hp (fun x hx he => R.att hp hx he) (fun x _ _ => wl_domL (F := F) (H := H) (s := s) hp x) (fun y hy e => by
    obtain ⟨i, hi, e, hv⟩ := he y hy e
    rw [hv, ← e, hc i hi]
    exact Rat.le_refl) _ 0 (Nat.le_refl _) h0
  rw [wl_zero] at h1 h2
  have h3 : val (nP (prV false P W F C) 0) = val (s, 1) := by rw [val_int]; unfold vl at h1 h2; grind
  exact fr_eq (R.fr 0 h0) (frP_iff.2 ⟨⟨by show -1000000000 ≤ s; omega, by show s ≤ 1000000000; omega⟩, ⟨by show (1 : Int) ≤ 1; decide, by show (1 : Int) ≤ 1000000; decide⟩, gI_one s⟩) ((val_eq (f := nP _ 0) (g := (s, 1)) (fr_pos (R.fr 0 h0)) (show (0 : Int) < 1 by decide)).1 h3)
/-- The lower price is no more than the upper one, as the law compares them. -/
theorem low_up_law (h1 : prB true P W F C = true) (h2 : prB false P W F C = true) {x : Nat} (hx : x < P.length) : decide ((nP (prV true P W F C) x).1 * (nP (prV false P W F C) x).2 < (nP (prV false P W F C) x).1 * (nP (prV true P W F C) x).2) = false := by
  obtain ⟨R1, K⟩ := prcs_of h1
  obtain ⟨R2, _⟩ := prcs_of h2
  have h := low_up R2 R1 K.tree.par hx
  refine decide_eq_false ?_
  rw [← val_lt (fr_pos (R1.fr x hx)) (fr_pos (R2.fr x hx))]
  unfold vl at h
  grind
end

theorem one_mem {l : List Int} {a b : Int} (h : l.length ≤ 1) (ha : a ∈ l) (hb : b ∈ l) : a = b := by
  match l, h with
  | [x], _ => rw [List.mem_singleton.1 ha, List.mem_singleton.1 hb]
section
variable {P W F C : List Int}
theorem full_dom (hn : ∀ x, x < P.length → nfB P F x = false) (v : Nat → Rat) (hA : ∀ x, x < P.length → endB P x = false → Att P F v x) {x : Nat} (hx : x < P.length) (he : endB P x = false) : DomU P F v x := by
  have h := hn x hx
  simp only [nfB, Bool.or_eq_false_iff, Bool.and_eq_false_iff, decide_eq_false_iff_not] at h
  obtain ⟨⟨h1, h2⟩, h3⟩ := h
  intro a ka
  obtain ⟨a', ka', hv⟩ := hA x hx he
  have less : ∀ {y : Nat}, Kid P x y → nth F y < nth F x → (y : Int) ∈ lessL P F x := fun {y} k l => mem_less.2 ⟨k, by rw [Int.toNat_natCast]; exact l⟩
  have more : ∀ {y : Nat}, Kid P x y → nth F x < nth F y → (y : Int) ∈ moreL P F x := fun {y} k l => mem_more.2 ⟨k, by rw [Int.toNat_natCast]; exact l⟩
  have same : ∀ {y : Nat}, Kid P x y → nth F y = nth F x → (y : Int) ∈ sameL P F x := fun {y} k l => mem_same.2 ⟨k, by rw [Int.toNat_natCast]; exact l⟩
  refine ⟨fun e => ?_, fun b kb l1 l2 => ?_⟩
  · have ms := same ka e
    have ps := List.length_pos_of_mem ms
    have ht : (lessL P F x).length + (sameL P F x).length + (moreL P F x).length ≤ 1 := by omega
    rcases hv with ⟨e', hv⟩ | ⟨b', kb', l1', l2', hv⟩
    · have : (a : Int) = a' := one_mem (by omega) ms (same ka' e')
      have : a = a' := by omega
      rw [this, hv]
      exact Rat.le_refl
    · have := List.length_pos_of_mem (less ka' l1')
      omega
  · have ml := less ka l1
    have mm := more kb l2
    have pl := List.length_pos_of_mem ml
    have pm := List.length_pos_of_mem mm
    rcases hv with ⟨e', hv⟩ | ⟨b', kb', l1', l2', hv⟩
    · have := List.length_pos_of_mem (same ka' e')
      omega
    · have q1 : (a : Int) = a' := one_mem (by omega) ml (less ka' l1')
      have q2 : (b : Int) = b' := one_mem (by omega) mm (more kb' l2')
      have q1 : a = a' := by omega
      have q2 : b = b' := by omega
      rw [q1, q2, hv]
      exact Rat.le_refl
theorem nP_ext {l l' : List (Int × Int)} (hl : l.length = l'.length) (h : ∀ i, i < l.length → nP l i = nP l' i) : l = l' := by
  refine List.ext_getElem hl fun i h1 h2 => ?_
  have := h i h1
  simpa [nP, h1, h2] using this
/-- In a full market both prices are one. -/
theorem full_law (hf : fuV P W F = true) (h1 : prB true P W F C = true) (h2 : prB false P W F C = true) : prV true P W F C = prV false P W F C := by
  obtain ⟨R1, K⟩ := prcs_of h1
  obtain ⟨R2, _⟩ := prcs_of h2
  have hp := K.tree.par
  have hn : ∀ x, x < P.length → nfB P F x = false := fun x hx => by
    cases hh : nfB P F x
    · rfl
    · simp only [fuV, Bool.and_eq_true] at hf
      have t := fu_no hf.1 hx hh
      simp only [fuV, Bool.and_eq_false_iff] at t
      rcases t with t | t
      · rw [hf.1] at t; cases t
      · rw [hf.2] at t; cases t
  refine nP_ext (by rw [R1.len, R2.len]) fun x hx => ?_
  rw [R1.len] at hx
  have a1 := att_dom hp (fun x hx he => R1.att hp hx he) (fun x hx he => full_dom hn (vl (prV false P W F C)) (fun x hx he => R2.att hp hx he) hx he) (fun y hy he => by
    obtain ⟨i, hi, e, hv⟩ := R1.end_ hy he
    obtain ⟨j, hj, e2, hv2⟩ := R2.end_ hy he
    have : i = j := endL_inj hi hj (by rw [e, e2])
    rw [hv, hv2, this]
    exact Rat.le_refl) _ x (Nat.le_refl _) hx
  have a2 := low_up R2 R1 hp hx
  have a3 : val (nP (prV true P W F C) x) = val (nP (prV false P W F C) x) := by unfold vl at a1 a2; grind
  exact fr_eq (R1.fr x hx) (R2.fr x hx) ((val_eq (fr_pos (R1.fr x hx)) (fr_pos (R2.fr x hx))).1 a3)
end

theorem exists_max {α : Type} (f : α → Rat) : ∀ (l : List α), l ≠ [] → ∃ a ∈ l, ∀ b ∈ l, f b ≤ f a
  | [], h => absurd rfl h
  | [a], _ => ⟨a, List.mem_cons_self .., fun b hb => by rw [List.mem_singleton.1 hb]; exact Rat.le_refl⟩
  | a :: c :: l, _ => by
    obtain ⟨m, hm, hmax⟩ := exists_max f (c :: l) (by simp)
    by_cases h : f m ≤ f a
    · refine ⟨a, List.mem_cons_self .., fun b hb => ?_⟩
      rcases List.mem_cons.1 hb with rfl | hb
      · exact Rat.le_refl
      · have := hmax b hb
        grind
    · refine ⟨m, List.mem_cons_of_mem _ hm, fun b hb => ?_⟩
      rcases List.mem_cons.1 hb with rfl | hb
      · grind
      · exact hmax b hb
theorem div_mul_self {a d : Rat} (hd : d ≠ 0) : a / d * d = a := by grind
theorem le_of_mul_le {a b d : Rat} (hd : 0 < d) (h : a * d ≤ b * d) : a ≤ b := by
  rcases Classical.em (a ≤ b) with h1 | h1
  · exact h1
  · have h2 : 0 < a - b := by grind
    have := Rat.mul_pos h2 hd
    grind
/-- From the choices being dominated: a line above all kids. -/
theorem slope_of {P F : List Int} {v : Nat → Rat} {x : Nat} (hp : ParOk P) (hu : unB P F x = false) (hD : DomU P F v x) : ∃ h : Rat, ∀ y, Kid P x y → v y ≤ v x + h * ((nth F y : Rat) - (nth F x : Rat)) := by
  have hlm : (0 < (lessL P F x).length) ↔ (0 < (moreL P F x).length) := by
    simp only [unB, bne_eq_false_iff_eq, decide_eq_decide] at hu
    exact hu
  by_cases hm : moreL P F x = []
  · have hl : lessL P F x = [] := by
      have : ¬ 0 < (lessL P F x).length := by rw [hlm, hm]; simp
      exact List.eq_nil_of_length_eq_zero (by omega)
    refine ⟨0, fun y ky => ?_⟩
    have n1 : ¬ nth F y < nth F x := fun l => by
      have : (y : Int) ∈ lessL P F x := mem_less.2 ⟨ky, by rw [Int.toNat_natCast]; exact l⟩
      rw [hl] at this
      cases this
    have n2 : ¬ nth F x < nth F y := fun l => by
      have : (y : Int) ∈ moreL P F x := mem_more.2 ⟨ky, by rw [Int.toNat_natCast]; exact l⟩
      rw [hm] at this
      cases this
    have := (hD y ky).1 (by omega)
    grind
  · obtain ⟨b, hb, hmax⟩ := exists_max (fun y : Int => (v y.toNat - v x) / ((nth F y.toNat : Rat) - (nth F x : Rat))) _ hm
    obtain ⟨kb, lb⟩ := mem_more.1 hb
    have gb := kids_mem hp kb
    obtain ⟨b, rfl⟩ : ∃ b' : Nat, b = (b' : Int) := ⟨b.toNat, by omega⟩
    rw [Int.toNat_natCast] at lb
    simp only [Int.toNat_natCast] at hmax
    have lb' := ilt lb
    have hd : (0 : Rat) < (nth F b : Rat) - (nth F x : Rat) := by grind
    have hdm := div_mul_self (a := v b - v x) (d := (nth F b : Rat) - (nth F x : Rat)) (by grind)
    generalize hh : (v b - v x) / ((nth F b : Rat) - (nth F x : Rat)) = h at *
    refine ⟨h, fun y ky => ?_⟩
    rcases Int.lt_trichotomy (nth F y) (nth F x) with l | l | l
    · have l' := ilt l
      have hmix := (hD y ky).2 b kb l lb
      have hdd : (0 : Rat) < (nth F b : Rat) - (nth F y : Rat) := by grind
      have hm2 : (v y * ((nth F b : Rat) - (nth F x : Rat)) + v b * ((nth F x : Rat) - (nth F y : Rat))) ≤ v x * ((nth F b : Rat) - (nth F y : Rat)) := by
        have := Rat.mul_le_mul_of_nonneg_right hmix (Rat.le_of_lt hdd)
        unfold mix at this
        rw [div_mul_self (by grind)] at this
        exact this
      refine le_of_mul_le hd ?_
      clear hmax hmix hu hD hlm hm
      generalize (nth F y : Rat) = fy at *
      generalize (nth F x : Rat) = fx at *
      generalize (nth F b : Rat) = fb at *
      generalize v y = vy at *
      generalize v x = vx at *
      generalize v b = vb at *
      have e : (vx + h * (fy - fx)) * (fb - fx) = vx * (fb - fx) + (vb - vx) * (fy - fx) := by rw [← hdm]; grind
      rw [e]
      have e2 : vx * (fb - fx) + (vb - vx) * (fy - fx) - vy * (fb - fx) = vx * (fb - fy) - (vy * (fb - fx) + vb * (fx - fy)) := by grind
      have h3 : 0 ≤ vx * (fb - fy) - (vy * (fb - fx) + vb * (fx - fy)) := by grind
      grind
    · have := (hD y ky).1 l
      rw [l]
      grind
    · have l' := ilt l
      have hmy := hmax (y : Int) (mem_more.2 ⟨ky, by rw [Int.toNat_natCast]; exact l⟩)
      rw [Int.toNat_natCast] at hmy
      have hdy : (0 : Rat) < (nth F y : Rat) - (nth F x : Rat) := by grind
      have h1 := Rat.mul_le_mul_of_nonneg_right hmy (Rat.le_of_lt hdy)
      rw [div_mul_self (by grind)] at h1
      grind
/-- Sums of rationals. -/
def sR (f : Nat → Rat) : Nat → Rat
  | 0 => 0
  | n + 1 => sR f n + f n
theorem sR_le {f g : Nat → Rat} : ∀ {n}, (∀ i, i < n → f i ≤ g i) → sR f n ≤ sR g n
  | 0, _ => Rat.le_refl
  | n + 1, h => by
    have h1 := sR_le (n := n) (f := f) (g := g) fun i hi => h i (by omega)
    have h2 := h n (by omega)
    rw [sR, sR]
    grind
theorem sR_cast {f : Nat → Int} : ∀ n, ((sN f n : Int) : Rat) = sR (fun i => (f i : Rat)) n
  | 0 => rfl
  | n + 1 => by rw [sN, sR, Rat.intCast_add, sR_cast n]
theorem sR_congr {f g : Nat → Rat} : ∀ {n}, (∀ i, i < n → f i = g i) → sR f n = sR g n
  | 0, _ => rfl
  | n + 1, h => by rw [sR, sR, sR_congr fun i hi => h i (by omega), h n (by omega)]
theorem sR_lin (c : Nat → Prop) [DecidablePred c] (s f : Nat → Rat) (v h x : Rat) : ∀ n, sR (fun z => if c z then s z * (v + h * (f z - x)) else 0) n = v * sR (fun z => if c z then s z else 0) n + h * (sR (fun z => if c z then s z * f z else 0) n - x * sR (fun z => if c z then s z else 0) n)
  | 0 => by simp only [sR]; grind
  | n + 1 => by
    have ih := sR_lin c s f v h x n
    simp only [sR]
    rw [ih]
    split <;> grind
theorem sR_neg (f : Nat → Rat) : ∀ n, sR (fun z => - f z) n = - sR f n
  | 0 => by simp only [sR]; grind
  | n + 1 => by simp only [sR]; rw [sR_neg f n]; grind
/-- A mean by fair weights is below what dominates. -/
theorem mean_gen {P F : List Int} (hp : ParOk P) (s : Nat → Rat) (v t : Nat → Rat) (hs : ∀ x, 0 ≤ s x) (hu : ∀ x, x < P.length → unB P F x = false) (hD : ∀ x, x < P.length → endB P x = false → DomU P F v x)
    (he : ∀ x, x < P.length → endB P x = true → t x ≤ s x * v x) (ht : ∀ x, x < P.length → endB P x = false → t x = sR (fun z => if nth P z = (x : Int) then t z else 0) P.length)
    (hS : ∀ x, x < P.length → endB P x = false → s x = sR (fun z => if nth P z = (x : Int) then s z else 0) P.length)
    (hF : ∀ x, x < P.length → endB P x = false → s x * (nth F x : Rat) = sR (fun z => if nth P z = (x : Int) then s z * (nth F z : Rat) else 0) P.length) : ∀ n x, P.length - x ≤ n → x < P.length → t x ≤ s x * v x := by
  intro n
  induction n with
  | zero => intro x h1 h2; omega
  | succ n ih =>
    intro x h1 h2
    cases hx : endB P x
    · obtain ⟨h, hh⟩ := slope_of hp (hu x h2) (hD x h2 hx)
      have l1 : sR (fun z => if nth P z = (x : Int) then t z else 0) P.length ≤ sR (fun z => if nth P z = (x : Int) then s z * (v x + h * ((nth F z : Rat) - (nth F x : Rat))) else 0) P.length := sR_le fun z hz => by
        by_cases hzx : nth P z = (x : Int)
        · simp only [hzx, if_true]
          have kz : Kid P x z := mem_kidTo.2 ⟨z, hz, hzx, rfl⟩
          have gz := kid_gt hp kz
          have i1 := ih z (by omega) hz
          have i2 := hh z kz
          have i3 := Rat.mul_le_mul_of_nonneg_right i2 (hs z)
          grind
        · simp only [hzx, if_false]
          exact Rat.le_refl
      have l2 := sR_lin (fun z => nth P z = (x : Int)) s (fun z => (nth F z : Rat)) (v x) h (nth F x : Rat) P.length
      have e1 := ht x h2 hx
      have e2 := hS x h2 hx
      have e3 := hF x h2 hx
      rw [← e2, ← e3] at l2
      rw [l2] at l1
      grind
    · exact he x h2 hx

theorem gath_eq {P xs : List Int} (hp : ParOk P) (hl : xs.length = P.length) (_h1 : 1 ≤ P.length) (x : Nat) : nth (gath P xs) x = nth xs x + sN (fun z => if nth P z = (x : Int) then nth (gath P xs) z else 0) P.length := by
  have h := gatY_tl hp hl (xs.length - 1) 0 (by omega) x
  rw [gatY_zero] at h
  rw [h, hl]
  congr 1
  apply sN_congr
  intro z hz
  by_cases hzx : nth P z = (x : Int)
  · have : 0 < z := by
      rcases Nat.eq_zero_or_pos z with rfl | h'
      · have := hp.zero; omega
      · exact h'
    rw [if_pos ⟨this, hzx⟩, if_pos hzx]
  · rw [if_neg (fun h => hzx h.2), if_neg hzx]
theorem gath_end {P xs : List Int} (hp : ParOk P) (hl : xs.length = P.length) (h1 : 1 ≤ P.length) {x : Nat} (he : endB P x = true) : nth (gath P xs) x = nth xs x := by
  rw [gath_eq hp hl h1 x, sN_zero, Int.add_zero]
  intro z hz
  have hk := (kids_nil x).2 he
  refine if_neg fun e => ?_
  have : (z : Int) ∈ kids P (x : Int) := mem_kidTo.2 ⟨z, hz, e, rfl⟩
  rw [hk] at this
  cases this
theorem sR_nn {f : Nat → Rat} : ∀ {n}, (∀ i, i < n → 0 ≤ f i) → 0 ≤ sR f n
  | 0, _ => Rat.le_refl
  | n + 1, h => by
    have h1 := sR_nn (n := n) (f := f) fun i hi => h i (by omega)
    have h2 := h n (by omega)
    rw [sR]
    grind
theorem sR_ge {f : Nat → Rat} {k : Nat} : ∀ {n}, (∀ i, i < n → 0 ≤ f i) → k < n → f k ≤ sR f n
  | 0, _, h => by omega
  | n + 1, h, hk => by
    have h2 := h n (by omega)
    rw [sR]
    rcases Nat.lt_or_ge k n with h' | h'
    · have h1 := sR_ge (n := n) (f := f) (fun i hi => h i (by omega)) h'
      grind
    · obtain rfl : k = n := by omega
      have h1 := sR_nn (n := k) (f := f) fun i hi => h i (by omega)
      grind
/-- Weights times pays at the ends; the totals; the means. -/
def wvL (P W V : List Int) : List Int := (List.range (endL P).length).map fun i => nth W (nth (endL P) i).toNat * nth V i
theorem wvL_length (P W V : List Int) : (wvL P W V).length = (endL P).length := by simp [wvL]
theorem wvL_nth {P W V : List Int} {i : Nat} (hi : i < (endL P).length) : nth (wvL P W V) i = nth W (nth (endL P) i).toNat * nth V i := by
  rw [nth_eq (by rw [wvL_length]; exact hi)]
  simp [wvL]
def totL (P W V : List Int) : List Int := gath P (atE P (wvL P W V))
def mnP (P W V : List Int) (x : Nat) : Int × Int := (cutT (nth (totL P W V) x) (nth (gath P W) x), cutB (nth (totL P W V) x) (nth (gath P W) x))
def mnL (P W V : List Int) : List (Int × Int) := (List.range P.length).map (mnP P W V)
def wtL (P W : List Int) : List Int := (endL P).map fun y => nth W y.toNat
theorem wtL_length (P W : List Int) : (wtL P W).length = (endL P).length := by simp [wtL]
theorem wtL_nth {P W : List Int} {i : Nat} (hi : i < (endL P).length) : nth (wtL P W) i = nth W (nth (endL P) i).toNat := by
  rw [nth_eq (by rw [wtL_length]; exact hi)]
  simp [wtL, nth_eq hi]
theorem atE_end {P X : List Int} {i : Nat} (hi : i < (endL P).length) : nth (atE P X) (nth (endL P) i).toNat = nth X i := putE_in (by simp) _ (Nat.le_refl _) i hi
theorem atE_in {P X : List Int} {x : Nat} (he : endB P x = false) : nth (atE P X) x = 0 := by rw [atE, putE_out he _ (Nat.le_refl _), nth_rep]
theorem atE_own {P W : List Int} (h : TreeOk P W) : atE P (wtL P W) = W := by
  refine ext_nth (by rw [atE_length, h.len]) fun x hx => ?_
  rw [atE_length] at hx
  cases he : endB P x
  · have hw := h.wt x hx
    rw [he] at hw
    simp only [Bool.false_eq_true, if_false] at hw
    rw [atE_in he, hw]
  · obtain ⟨i, hi, e⟩ := end_idx hx he
    have := atE_end (P := P) (X := wtL P W) hi
    rw [e, Int.toNat_natCast] at this
    rw [this, wtL_nth hi, e, Int.toNat_natCast]
theorem mean_law {P W F C : List Int} (hf : fwV P W F (wtL P W) = true) (h1 : prB true P W F C = true) (h2 : prB false P W F C = true) :
    decide ((nP (prV true P W F C) 0).1 * (mnP P W C 0).2 < (mnP P W C 0).1 * (nP (prV true P W F C) 0).2) = false ∧ decide ((mnP P W C 0).1 * (nP (prV false P W F C) 0).2 < (nP (prV false P W F C) 0).1 * (mnP P W C 0).2) = false := by
  obtain ⟨R1, K⟩ := prcs_of h1
  obtain ⟨R2, _⟩ := prcs_of h2
  have hp := K.tree.par
  have hn1 := K.tree.n1
  have hwl := K.tree.len
  have h0 : 0 < P.length := by omega
  have hS0 := K.tree.sum_bd
  have hb : balA P (gath P W) F = true := by
    simp only [fwV, Bool.and_eq_true] at hf
    have := hf.2
    rwa [atE_own K.tree] at this
  have hal := atE_length P (wvL P W C)
  -- sums at inner nodes
  have hSi : ∀ x, x < P.length → endB P x = false → (nth (gath P W) x : Rat) = sR (fun z => if nth P z = (x : Int) then (nth (gath P W) z : Rat) else 0) P.length := fun x hx he => by
    have hw := K.tree.wt x hx
    rw [he] at hw
    simp only [Bool.false_eq_true, if_false] at hw
    have e := gath_eq hp hwl (by omega) x
    rw [hw, Int.zero_add] at e
    have e2 : ((nth (gath P W) x : Int) : Rat) = ((sN (fun z => if nth P z = (x : Int) then nth (gath P W) z else 0) P.length : Int) : Rat) := by rw [← e]
    rw [e2, sR_cast]
    exact sR_congr fun z _ => by split <;> rfl
  have hTi : ∀ x, x < P.length → endB P x = false → (nth (totL P W C) x : Rat) = sR (fun z => if nth P z = (x : Int) then (nth (totL P W C) z : Rat) else 0) P.length := fun x hx he => by
    have e := gath_eq hp hal (by omega) x
    rw [atE_in he, Int.zero_add] at e
    have e2 : ((nth (totL P W C) x : Int) : Rat) = ((sN (fun z => if nth P z = (x : Int) then nth (totL P W C) z else 0) P.length : Int) : Rat) := by
      have e3 : nth (totL P W C) x = sN (fun z => if nth P z = (x : Int) then nth (totL P W C) z else 0) P.length := e
      rw [← e3]
    rw [e2, sR_cast]
    exact sR_congr fun z _ => by split <;> rfl
  have hFi : ∀ x, x < P.length → endB P x = false → (nth (gath P W) x : Rat) * (nth F x : Rat) = sR (fun z => if nth P z = (x : Int) then (nth (gath P W) z : Rat) * (nth F z : Rat) else 0) P.length := fun x hx he => by
    have hx' : balX P (gath P W) F x = true := by
      have := List.all_eq_true.1 hb x (List.mem_range.2 hx)
      exact this
    simp only [balX, he, Bool.false_or, decide_eq_true_eq] at hx'
    rw [kidS, kS_sN] at hx'
    have e2 : ((pS (gath P W) F x : Int) : Rat) = ((sN (fun z => if nth P z = (x : Int) then pS (gath P W) F z else 0) P.length : Int) : Rat) := by rw [← hx']
    rw [sR_cast] at e2
    have e3 : ((pS (gath P W) F x : Int) : Rat) = (nth (gath P W) x : Rat) * (nth F x : Rat) := by rw [pS, Rat.intCast_mul]
    rw [← e3, e2]
    refine sR_congr fun z _ => ?_
    split
    · rw [pS, Rat.intCast_mul]
    · rfl
  -- ends
  have hE : ∀ x, x < P.length → endB P x = true → ∃ i, i < (endL P).length ∧ nth (endL P) i = (x : Int) ∧ (nth (totL P W C) x : Rat) = (nth (gath P W) x : Rat) * (nth C i : Rat) := fun x hx he => by
    obtain ⟨i, hi, e⟩ := end_idx hx he
    refine ⟨i, hi, e, ?_⟩
    have t1 : nth (totL P W C) x = nth (atE P (wvL P W C)) x := gath_end hp hal (by omega) he
    have t2 : nth (gath P W) x = nth W x := gath_end hp hwl (by omega) he
    have t3 := atE_end (P := P) (X := wvL P W C) hi
    rw [e, Int.toNat_natCast, wvL_nth hi, e, Int.toNat_natCast] at t3
    rw [t1, t2, t3, Rat.intCast_mul]
  have hsn : ∀ x, (0 : Rat) ≤ (nth (gath P W) x : Rat) := fun x => by exact_mod_cast (hS0 x).1
  have up := mean_gen hp (fun x => (nth (gath P W) x : Rat)) (vl (prV true P W F C)) (fun x => (nth (totL P W C) x : Rat)) hsn (fun x hx => K.un x hx) (fun x hx he => R1.domU hp hx he) (fun x hx he => by
    obtain ⟨i, hi, e, ht⟩ := hE x hx he
    obtain ⟨j, hj, e2, hv⟩ := R1.end_ hx he
    have : i = j := endL_inj hi hj (by rw [e, e2])
    show (nth (totL P W C) x : Rat) ≤ (nth (gath P W) x : Rat) * vl (prV true P W F C) x
    rw [ht, hv, this]
    exact Rat.le_refl) hTi hSi hFi _ 0 (Nat.le_refl _) h0
  have mneg : ∀ (v : Nat → Rat) (x a b : Nat), mix F (fun y => - v y) x a b = - mix F v x a b := fun v x a b => by
    unfold mix
    have h1 := Rat.neg_mul (v a * ((nth F b : Rat) - (nth F x : Rat)) + v b * ((nth F x : Rat) - (nth F a : Rat))) ((nth F b : Rat) - (nth F a : Rat))⁻¹
    rw [Rat.div_def, Rat.div_def, ← h1]
    grind
  have lo := mean_gen hp (fun x => (nth (gath P W) x : Rat)) (fun x => - vl (prV false P W F C) x) (fun x => - (nth (totL P W C) x : Rat)) hsn (fun x hx => K.un x hx) (fun x hx he a ka => by
    have d := R2.domL hp hx he a ka
    refine ⟨fun e => ?_, fun b kb l1 l2 => ?_⟩
    · have := d.1 e
      grind
    · have := d.2 b kb l1 l2
      rw [mneg]
      grind) (fun x hx he => by
    obtain ⟨i, hi, e, ht⟩ := hE x hx he
    obtain ⟨j, hj, e2, hv⟩ := R2.end_ hx he
    have : i = j := endL_inj hi hj (by rw [e, e2])
    show - (nth (totL P W C) x : Rat) ≤ (nth (gath P W) x : Rat) * - vl (prV false P W F C) x
    rw [ht, hv, this]
    grind) (fun x hx he => by
    show - (nth (totL P W C) x : Rat) = sR (fun z => if nth P z = (x : Int) then - (nth (totL P W C) z : Rat) else 0) P.length
    rw [hTi x hx he, ← sR_neg]
    exact sR_congr fun z _ => by split <;> grind) hSi hFi _ 0 (Nat.le_refl _) h0
  -- the root's weight is positive
  have pos : ∀ n x, P.length - x ≤ n → x < P.length → (0 : Rat) < (nth (gath P W) x : Rat) := by
    intro n
    induction n with
    | zero => intro x h1 h2; omega
    | succ n ih =>
      intro x h1 h2
      cases he : endB P x
      · obtain ⟨a, ka, _⟩ := R1.att hp h2 he
        have ga := kid_gt hp ka
        have i1 := ih a (by omega) ga.2
        rw [hSi x h2 he]
        have hpa : nth P a = (x : Int) := by
          obtain ⟨j, hj, hpj, e⟩ := mem_kidTo.1 ka
          have : a = j := by omega
          rw [this]; exact hpj
        have g := sR_ge (f := fun z => if nth P z = (x : Int) then (nth (gath P W) z : Rat) else 0) (k := a) (n := P.length) (fun i _ => by
          by_cases h : nth P i = (x : Int)
          · simp only [h, if_true]; exact hsn i
          · simp only [h, if_false]; exact Rat.le_refl) ga.2
        simp only [hpa, if_true] at g
        grind
      · have t2 : nth (gath P W) x = nth W x := gath_end hp hwl (by omega) he
        have hw := K.tree.wt x h2
        rw [he] at hw
        simp only [if_true] at hw
        rw [t2]
        exact_mod_cast (show 0 < nth W x by omega)
  have p0 := pos _ 0 (Nat.le_refl _) h0
  have p0' : 0 < nth (gath P W) 0 := by exact_mod_cast p0
  have hm : val (mnP P W C 0) = (nth (totL P W C) 0 : Rat) / (nth (gath P W) 0 : Rat) := (val_eq (f := mnP P W C 0) (g := (nth (totL P W C) 0, nth (gath P W) 0)) (cutB_pos p0') p0').2 (cut_cross _ _)
  have hmd : val (mnP P W C 0) * (nth (gath P W) 0 : Rat) = (nth (totL P W C) 0 : Rat) := by rw [hm]; exact div_mul_self (by grind)
  have u1 : val (mnP P W C 0) ≤ vl (prV true P W F C) 0 := le_of_mul_le p0 (by rw [hmd]; grind)
  have u2 : vl (prV false P W F C) 0 ≤ val (mnP P W C 0) := le_of_mul_le p0 (by rw [hmd]; grind)
  have pm : 0 < (mnP P W C 0).2 := cutB_pos p0'
  constructor
  · refine decide_eq_false ?_
    rw [← val_lt (f := nP (prV true P W F C) 0) (g := mnP P W C 0) (fr_pos (R1.fr 0 h0)) pm]
    unfold vl at u1
    grind
  · refine decide_eq_false ?_
    rw [← val_lt (f := mnP P W C 0) (g := nP (prV false P W F C) 0) pm (fr_pos (R2.fr 0 h0))]
    unfold vl at u2
    grind

end Go.Proofs.Ytnhclpajfejnoaa
