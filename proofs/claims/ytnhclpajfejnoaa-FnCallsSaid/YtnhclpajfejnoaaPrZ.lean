/- Prices at all nodes: bounds of what stands in the row, and the row while one node's best price is sought. No program stands here. -/
import Derived.Test.YtnhclpajfejnoaaPrL
namespace Go.Proofs.Ytnhclpajfejnoaa

/-- Nothing yet, or a fraction. -/
def zP (f : Int × Int) : Prop := f = (0, 0) ∨ frP f = true
theorem zP_bd {f : Int × Int} (h : zP f) : (-1000000000 ≤ f.1 ∧ f.1 ≤ 1000000000) ∧ (0 ≤ f.2 ∧ f.2 ≤ 1000000) := by
  rcases h with rfl | h
  · exact ⟨⟨by decide, by decide⟩, by decide, by decide⟩
  · have := frP_iff.1 h
    exact ⟨this.1, by omega, this.2.1.2⟩
theorem zP_nP {l : List (Int × Int)} (h : ∀ f ∈ l, zP f) (k : Nat) : zP (nP l k) := by
  rcases Nat.lt_or_ge k l.length with hk | hk
  · exact h _ (nP_mem hk)
  · left
    unfold nP
    rw [List.getD_eq_getElem?_getD, List.getElem?_eq_none hk]
    rfl
theorem stTo_z {P C : List Int} (hc : clmB P C = true) : ∀ k, k ≤ (endL P).length → ∀ f ∈ stTo P C k, zP f
  | 0, _, f, hf => .inl (List.eq_of_mem_replicate hf)
  | k + 1, hk, f, hf => by
    rw [stTo] at hf
    rcases List.mem_or_eq_of_mem_set hf with hf | rfl
    · exact stTo_z hc k (by omega) f hf
    · simp only [clmB, Bool.and_eq_true, decide_eq_true_eq] at hc
      exact .inr (claim_fr (allB_nth hc.2 (by omega)))
theorem topOf_z {up : Bool} {l : List (Int × Int)} (h : ∀ f ∈ l, frP f = true) : zP (topOf up l) := by
  rcases Nat.eq_zero_or_pos l.length with h0 | h0
  · obtain rfl := List.length_eq_zero_iff.1 h0
    exact .inl rfl
  · exact .inr (h _ (topOf_mem h0))
theorem step_z {up : Bool} {P F : List Int} {x : Nat} {out out' : List (Int × Int)} (h : ∀ f ∈ out, zP f) (hs : stepX up P F x out = some out') : ∀ f ∈ out', zP f := by
  unfold stepX at hs
  split at hs
  · cases hs
    exact h
  · split at hs
    · next ha =>
      cases hs
      intro f hf
      rcases List.mem_or_eq_of_mem_set hf with hf | rfl
      · exact h f hf
      · exact topOf_z (List.all_eq_true.1 ha)
    · cases hs
theorem stL_z {up : Bool} {P F C : List Int} (hc : clmB P C = true) : ∀ m out, stL up P F C m = some out → ∀ f ∈ out, zP f
  | 0, out, h => by
    rw [stL] at h
    cases h
    exact stTo_z hc _ (Nat.le_refl _)
  | m + 1, out, h => by
    rw [stL] at h
    cases hm : stL up P F C m with
    | none => rw [hm] at h; cases h
    | some o =>
      rw [hm] at h
      exact step_z (stL_z hc m o hm) h
/-- The row while a node's best price is sought: m of the list's prices are seen. -/
def bsM (up : Bool) (x : Nat) (out L : List (Int × Int)) (m : Nat) : List (Int × Int) := if m = 0 then out else out.set x (bestTo up L (m - 1))
section
variable {up : Bool} {x : Nat} {out L : List (Int × Int)} {m : Nat}
theorem bsM_len : (bsM up x out L m).length = out.length := by
  unfold bsM
  split
  · rfl
  · rw [List.length_set]
theorem bsM_zero : bsM up x out L 0 = out := rfl
theorem bsM_first : (bsM up x out L 0).set x (nP L 0) = bsM up x out L 1 := rfl
theorem bsM_at (hx : x < out.length) : nP (bsM up x out L (m + 1)) x = bestTo up L m := by
  unfold bsM
  rw [if_neg (by omega), nP_set_self hx]
  rfl
theorem bsM_yes (h : betP up (nP L (m + 1)) (bestTo up L m) = true) : (bsM up x out L (m + 1)).set x (nP L (m + 1)) = bsM up x out L (m + 2) := by
  unfold bsM
  rw [if_neg (by omega), if_neg (by omega), List.set_set]
  show _ = out.set x (bestTo up L (m + 1))
  rw [bestTo, h]
  rfl
theorem bsM_no (h : betP up (nP L (m + 1)) (bestTo up L m) = false) : bsM up x out L (m + 1) = bsM up x out L (m + 2) := by
  unfold bsM
  rw [if_neg (by omega), if_neg (by omega)]
  show _ = out.set x (bestTo up L (m + 1))
  rw [bestTo, h]
  rfl
theorem bsM_z (hx : x < out.length) (ho : ∀ f ∈ out, zP f) (hL : ∀ f ∈ L, frP f = true) (hm : m ≤ L.length) : zP (nP (bsM up x out L m) x) := by
  rcases m with _ | m
  · exact zP_nP ho x
  · rw [bsM_at hx]
    exact .inr (hL _ (bestTo_mem m (by omega)))
theorem bsM_set (hx : x < out.length) (hm : 0 < m) (h : betP up (nP L m) (nP (bsM up x out L m) x) = true) : (bsM up x out L m).set x (nP L m) = bsM up x out L (m + 1) := by
  obtain ⟨m, rfl⟩ : ∃ n, m = n + 1 := ⟨m - 1, by omega⟩
  rw [bsM_at hx] at h
  exact bsM_yes h
theorem bsM_keep (hx : x < out.length) (hm : 0 < m) (h : ¬ betP up (nP L m) (nP (bsM up x out L m) x) = true) : bsM up x out L m = bsM up x out L (m + 1) := by
  obtain ⟨m, rfl⟩ : ∃ n, m = n + 1 := ⟨m - 1, by omega⟩
  rw [bsM_at hx] at h
  exact bsM_no (by simpa using h)
theorem bsM_all (h : 0 < L.length) : bsM up x out L L.length = out.set x (topOf up L) := by
  unfold bsM
  rw [if_neg (by omega)]
  rfl
end
theorem side_none {P F : List Int} {x : Nat} (he : endB P x = true) : (lessL P F x).length = 0 ∧ (sameL P F x).length = 0 ∧ (moreL P F x).length = 0 := by
  have hk := (kids_nil x).2 he
  refine ⟨?_, ?_, ?_⟩
  · rw [List.length_eq_zero_iff, List.eq_nil_iff_forall_not_mem]
    intro y hy
    have := (mem_less.1 hy).1
    rw [hk] at this
    cases this
  · rw [List.length_eq_zero_iff, List.eq_nil_iff_forall_not_mem]
    intro y hy
    have := (mem_same.1 hy).1
    rw [hk] at this
    cases this
  · rw [List.length_eq_zero_iff, List.eq_nil_iff_forall_not_mem]
    intro y hy
    have := (mem_more.1 hy).1
    rw [hk] at this
    cases this
theorem imL_none {P F : List Int} {x : Nat} {out : List (Int × Int)} (he : endB P x = true) : imL P F out x = [] := by
  have h := side_none (F := F) he
  rw [imL, imS, imQ, List.length_eq_zero_iff.1 h.1, List.length_eq_zero_iff.1 h.2.1]
  rfl
theorem imL_pos {P F : List Int} {x : Nat} {out : List (Int × Int)} (he : endB P x = false) (hu : unB P F x = false) : 0 < (imL P F out x).length := by
  have h := chL_pos (out := out) he hu
  rcases Nat.eq_zero_or_pos (imL P F out x).length with h0 | h0
  · have hm := (mem_both _).1 (List.getElem_mem h)
    rw [List.length_eq_zero_iff.1 h0] at hm
    cases hm
  · exact h0
theorem imL_fr {P F : List Int} {x : Nat} {out : List (Int × Int)} (hp : ParOk P) (h : PrInv P (x + 1) out)
    (hy : ∀ a ∈ lessL P F x, ∀ b ∈ moreL P F x, frP (btw F out x a.toNat b.toNat) = true) : ∀ f ∈ imL P F out x, frP f = true := by
  intro f hf
  rcases mem_imL.1 hf with ⟨a, ha, rfl⟩ | ⟨a, ha, b, hb, rfl⟩
  · have hk := kids_mem hp (mem_same.1 ha).1
    exact h.fr _ (by omega) (.inl (by omega))
  · exact hy a ha b hb
/-- The price between, cut. -/
theorem btw_lw {F : List Int} {out : List (Int × Int)} {x y z : Nat} (h : lwOk (btX F out x y z) (btY F out x y z) = true) : (lwT (btX F out x y z) (btY F out x y z), lwB (btX F out x y z) (btY F out x y z)) = btw F out x y z := by
  unfold lwOk at h
  unfold lwT lwB kpT kpB btw
  rw [h]
  rfl
end Go.Proofs.Ytnhclpajfejnoaa
