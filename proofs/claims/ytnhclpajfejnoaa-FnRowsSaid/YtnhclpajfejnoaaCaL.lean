/- The law FnCalls, plainly: shares are worth their price; calls and puts differ by the price less the strike. -/
import Derived.Test.YtnhclpajfejnoaaHgL
namespace Go.Proofs.Ytnhclpajfejnoaa

/-- Claims by the ends' prices. -/
def clmBy (P F : List Int) (g : Int → Int) : List Int := (endL P).map fun y => g (nth F y.toNat)
theorem clmBy_length (P F : List Int) (g : Int → Int) : (clmBy P F g).length = (endL P).length := by simp [clmBy]
theorem clmBy_nth {P F : List Int} {g : Int → Int} {i : Nat} (hi : i < (endL P).length) : nth (clmBy P F g) i = g (nth F (nth (endL P) i).toNat) := by
  rw [nth_eq (by rw [clmBy_length]; exact hi)]
  simp [clmBy, nth_eq hi]
theorem clmBy_take {P F : List Int} {g : Int → Int} {i : Nat} (hi : i < (endL P).length) : (clmBy P F g).take (i + 1) = (clmBy P F g).take i ++ [g (nth F (nth (endL P) i).toNat)] := by
  rw [List.take_succ_eq_append_getElem (by rw [clmBy_length]; exact hi), ← nth_eq (by rw [clmBy_length]; exact hi), clmBy_nth hi]
def callC (k p : Int) : Int := if k < p then p - k else 0
def putC (k p : Int) : Int := if p < k then k - p else 0
def shareC (p : Int) : Int := p
theorem call_put (k p : Int) : callC k p - putC k p = p - k := by
  unfold callC putC
  split <;> split <;> omega
/-- Whether there are calls and puts. -/
def caB (P W F : List Int) (k : Int) : Bool := mktB P W F && inB k 0 20
def caV (P W F : List Int) (k : Int) (g : Int → Int) : List Int := if caB P W F k then clmBy P F g else []
theorem F_nth {F : List Int} (hF : allB F 0 20 = true) (x : Nat) : 0 ≤ nth F x ∧ nth F x ≤ 20 := by
  rcases Nat.lt_or_ge x F.length with h | h
  · exact allB_nth hF h
  · rw [nth_big h]; decide
theorem clmBy_ok {P F : List Int} (g : Int → Int) (h : ∀ x : Nat, -99 ≤ g (nth F x) ∧ g (nth F x) ≤ 99) : clmB P (clmBy P F g) = true := by
  unfold clmB
  rw [clmBy_length, decide_eq_true rfl, Bool.true_and]
  unfold allB clmBy
  rw [List.all_eq_true]
  intro x hx
  obtain ⟨y, _, rfl⟩ := List.mem_map.1 hx
  exact inB_iff.2 (h _)
section
variable {P W F : List Int}
theorem prcs_end {up : Bool} {out : List (Int × Int)} {g : Int → Int} (h : Prcs up P F (clmBy P F g) out) {x : Nat} (hx : x < P.length) (he : endB P x = true) : vl out x = (g (nth F x) : Rat) := by
  obtain ⟨i, hi, e, hv⟩ := h.end_ hx he
  rw [hv, clmBy_nth hi, e, Int.toNat_natCast]
/-- Shares are worth their price. -/
theorem share_price {up : Bool} (h : prB up P W F (clmBy P F shareC) = true) {x : Nat} (hx : x < P.length) : nP (prV up P W F (clmBy P F shareC)) x = (nth F x, 1) := by
  obtain ⟨R, K⟩ := prcs_of h
  have hp := K.tree.par
  have mixF : ∀ x a b, nth F a < nth F x → nth F x < nth F b → mix F (fun y => (nth F y : Rat)) x a b = (nth F x : Rat) := fun x a b l1 l2 =>
    mix_line (v := fun y => (nth F y : Rat)) 1 (nth F x : Rat) l1 l2 (by grind) (by grind)
  have hD : ∀ x, x < P.length → endB P x = false → DomU P F (fun y => (nth F y : Rat)) x := fun x _ _ a _ =>
    ⟨fun e => by show (nth F a : Rat) ≤ nth F x; rw [e]; exact Rat.le_refl, fun b _ l1 l2 => by rw [mixF x a b l1 l2]; exact Rat.le_refl⟩
  have hDL : ∀ x, x < P.length → endB P x = false → DomL P F (fun y => (nth F y : Rat)) x := fun x _ _ a _ =>
    ⟨fun e => by show (nth F x : Rat) ≤ nth F a; rw [e]; exact Rat.le_refl, fun b _ l1 l2 => by rw [mixF x a b l1 l2]; exact Rat.le_refl⟩
  have hA := fun x hx he => R.att hp (x := x) hx he
  have h1 := att_dom hp hA hD (fun y hy he => by rw [prcs_end R hy he]; exact Rat.le_refl) _ x (Nat.le_refl _) hx
  have h2 := dom_att hp hA hDL (fun y hy he => by rw [prcs_end R hy he]; exact Rat.le_refl) _ x (Nat.le_refl _) hx
  have h3 : vl (prV up P W F (clmBy P F shareC)) x = val (nth F x, 1) := by rw [val_int]; grind
  have hF := F_nth K.f20 x
  exact fr_eq (R.fr x hx) (claim_fr (by omega)) ((val_eq (f := nP _ x) (g := (nth F x, 1)) (fr_pos (R.fr x hx)) (show (0 : Int) < 1 by decide)).1 h3)
/-- The greatest price is no less than the least one. -/
theorem low_up {C : List Int} {o1 o2 : List (Int × Int)} (R1 : Prcs false P F C o1) (R2 : Prcs true P F C o2) (hp : ParOk P) {x : Nat} (hx : x < P.length) : vl o1 x ≤ vl o2 x :=
  att_dom hp (fun x hx he => R1.att hp hx he) (fun x hx he => R2.domU hp hx he) (fun y hy he => by
    obtain ⟨i, hi, e, hv⟩ := R1.end_ hy he
    obtain ⟨j, hj, e2, hv2⟩ := R2.end_ hy he
    have : i = j := endL_inj hi hj (by rw [e, e2])
    rw [hv, hv2, this]
    exact Rat.le_refl) _ x (Nat.le_refl _) hx
theorem call_price {k : Int} {o1 o2 : List (Int × Int)} (R1 : Prcs true P F (clmBy P F (callC k)) o1) (R2 : Prcs true P F (clmBy P F (putC k)) o2) (hp : ParOk P) {x : Nat} (hx : x < P.length) :
    vl o1 x = vl o2 x + (nth F x : Rat) - (k : Rat) := by
  have hends : ∀ y, y < P.length → endB P y = true → vl o1 y = vl o2 y + (nth F y : Rat) - (k : Rat) := fun y hy he => by
    rw [prcs_end R1 hy he, prcs_end R2 hy he]
    have := call_put k (nth F y)
    have h2 : ((callC k (nth F y) - putC k (nth F y) : Int) : Rat) = ((nth F y - k : Int) : Rat) := by rw [this]
    rw [Rat.intCast_sub, Rat.intCast_sub] at h2
    grind
  have hA : ∀ x, x < P.length → endB P x = false → Att P F (fun y => vl o2 y + (nth F y : Rat) - (k : Rat)) x := fun x hx he => by
    obtain ⟨a, ka, h⟩ := R2.att hp hx he
    refine ⟨a, ka, ?_⟩
    rcases h with ⟨e, hv⟩ | ⟨b, kb, l1, l2, hv⟩
    · exact .inl ⟨e, by show vl o2 x + _ - _ = vl o2 a + _ - _; rw [hv, e]⟩
    · exact .inr ⟨b, kb, l1, l2, by rw [mix_shift (v := vl o2) (k : Rat) l1 l2 rfl rfl, ← hv]⟩
  have hD : ∀ x, x < P.length → endB P x = false → DomU P F (fun y => vl o2 y + (nth F y : Rat) - (k : Rat)) x := fun x hx he a ka => by
    have d := R2.domU hp hx he a ka
    refine ⟨fun e => ?_, fun b kb l1 l2 => ?_⟩
    · have := d.1 e
      show vl o2 a + (nth F a : Rat) - k ≤ vl o2 x + (nth F x : Rat) - k
      rw [e]
      grind
    · have := d.2 b kb l1 l2
      rw [mix_shift (v := vl o2) (k : Rat) l1 l2 rfl rfl]
      grind
  have h1 := att_dom hp (fun x hx he => R1.att hp hx he) hD (fun y hy he => by rw [hends y hy he]; exact Rat.le_refl) _ x (Nat.le_refl _) hx
  have h2 := att_dom hp hA (fun x hx he => R1.domU hp hx he) (fun y hy he => by rw [hends y hy he]; exact Rat.le_refl) _ x (Nat.le_refl _) hx
  grind
theorem val_shift (f : Int × Int) (g : Int) (hf : 0 < f.2) : val (f.1 + g * f.2, f.2) = val f + (g : Rat) := by
  have h := ratpos hf
  unfold val
  show ((f.1 + g * f.2 : Int) : Rat) / (f.2 : Rat) = (f.1 : Rat) / (f.2 : Rat) + (g : Rat)
  rw [Rat.intCast_add, Rat.intCast_mul]
  generalize (f.1 : Rat) = a at *
  generalize (f.2 : Rat) = b at *
  generalize (g : Rat) = c at *
  have : b ≠ 0 := by grind
  grind
/-- The law's last two comparisons. -/
theorem calls_law {k : Int} (h1 : prB true P W F (clmBy P F (callC k)) = true) (h2 : prB false P W F (clmBy P F (putC k)) = true) (h3 : prB false P W F (clmBy P F (callC k)) = true) (h4 : prB true P W F (clmBy P F (putC k)) = true)
    {a b c d : Int × Int} (ha : a = nP (prV true P W F (clmBy P F (callC k))) 0) (hb : b = nP (prV false P W F (clmBy P F (putC k))) 0) (hc : c = nP (prV false P W F (clmBy P F (callC k))) 0) (hd : d = nP (prV true P W F (clmBy P F (putC k))) 0) :
    decide (a.1 * b.2 < (b.1 + (nth F 0 - k) * b.2) * a.2) = false ∧ decide ((d.1 + (nth F 0 - k) * d.2) * c.2 < c.1 * d.2) = false := by
  obtain ⟨R1, K⟩ := prcs_of h1
  obtain ⟨R2, _⟩ := prcs_of h2
  obtain ⟨R3, _⟩ := prcs_of h3
  obtain ⟨R4, _⟩ := prcs_of h4
  have hp := K.tree.par
  have h0 : 0 < P.length := by have := K.tree.n1; omega
  have e1 := call_price R1 R4 hp h0
  have e2 := low_up R2 R4 hp h0
  have e3 := low_up R3 R1 hp h0
  have pa := fr_pos (R1.fr 0 h0)
  have pb := fr_pos (R2.fr 0 h0)
  have pc := fr_pos (R3.fr 0 h0)
  have pd := fr_pos (R4.fr 0 h0)
  unfold vl at e1 e2 e3
  rw [← ha] at e1 e3 pa
  rw [← hb] at e2 pb
  rw [← hc] at e3 pc
  rw [← hd] at e1 e2 pd
  have s1 := val_shift b (nth F 0 - k) pb
  have s2 := val_shift d (nth F 0 - k) pd
  rw [Rat.intCast_sub] at s1 s2
  constructor
  · rw [decide_eq_false_iff_not, ← val_lt (f := a) (g := (b.1 + (nth F 0 - k) * b.2, b.2)) pa pb]
    grind
  · rw [decide_eq_false_iff_not, ← val_lt (f := (d.1 + (nth F 0 - k) * d.2, d.2)) (g := c) pd pc]
    grind
end
end Go.Proofs.Ytnhclpajfejnoaa
