/- Charges, plainly: the least index on the way to a node, both ways. No program stands here. -/
import Derived.Test.YtdhagkckkdaenaaIxW
namespace Go.Proofs.Ytdhagkckkdaenaa

section
variable {P W F : List Int} {a b : Int}
/-- The reference's charge: that of the parent, or the node's own index. -/
def cgF (P W F : List Int) (a b : Int) : Nat → Nat → Int × Int
  | 0, x => idxP P W F a b x
  | n + 1, x => if x = 0 ∨ endB P x = true then idxP P W F a b x
      else if lessP (cgF P W F a b n (nth P x).toNat) (idxP P W F a b x) = true then cgF P W F a b n (nth P x).toNat else idxP P W F a b x
def cgX (P W F : List Int) (a b : Int) (x : Nat) : Int × Int := cgF P W F a b x x
theorem cgF_fuel (hp : ParOk P) : ∀ n m x, x < P.length → x ≤ n → x ≤ m → cgF P W F a b n x = cgF P W F a b m x
  | 0, 0, x, _, _, _ => rfl
  | 0, m + 1, x, _, h1, _ => by
    obtain rfl : x = 0 := by omega
    rw [cgF, cgF, if_pos (.inl rfl)]
  | n + 1, 0, x, _, _, h2 => by
    obtain rfl : x = 0 := by omega
    rw [cgF, cgF, if_pos (.inl rfl)]
  | n + 1, m + 1, x, hx, h1, h2 => by
    rw [cgF, cgF]
    by_cases h0 : x = 0 ∨ endB P x = true
    · rw [if_pos h0, if_pos h0]
    · rw [if_neg h0, if_neg h0]
      have := hp.up x (by omega) hx
      rw [cgF_fuel hp n m (nth P x).toNat (by omega) (by omega) (by omega)]
theorem cgX_zero : cgX P W F a b 0 = idxP P W F a b 0 := rfl
theorem cgX_end {x : Nat} (he : endB P x = true) : cgX P W F a b x = idxP P W F a b x := by
  unfold cgX
  cases x
  · rfl
  · rw [cgF, if_pos (.inr he)]
theorem cgX_in (hp : ParOk P) {x p : Nat} (hx : x < P.length) (hx0 : x ≠ 0) (he : endB P x = false) (hpx : nth P x = (p : Int)) :
    cgX P W F a b x = if lessP (cgX P W F a b p) (idxP P W F a b x) = true then cgX P W F a b p else idxP P W F a b x := by
  have := hp.up x (by omega) hx
  obtain ⟨n, rfl⟩ : ∃ n, x = n + 1 := ⟨x - 1, by omega⟩
  unfold cgX
  rw [cgF, if_neg (by rw [he]; simp), hpx, Int.toNat_natCast, cgF_fuel hp n p p (by omega) (by omega) (Nat.le_refl _)]
/-- The charge is the least of the indices on the way. -/
theorem cg_mem (h : ArmAB P W F a b) : ∀ x, x < P.length → endB P x = false → ∃ u, u < P.length ∧ undB P u x = true ∧ cgX P W F a b x = idxP P W F a b u := by
  intro x
  induction x using Nat.strongRecOn with
  | _ x ih =>
    intro hx he
    rcases Nat.eq_zero_or_pos x with rfl | h0
    · exact ⟨0, hx, rch_self, cgX_zero⟩
    · obtain ⟨p, hp, hlt⟩ := par_of h.arm.tree.par h0 hx
      have hep : endB P p = false := by
        cases hb : endB P p
        · rfl
        · have h3 := (kids_nil (P := P) p).2 hb
          have h4 : (x : Int) ∈ kids P (p : Int) := mem_kidTo.2 ⟨x, hx, hp, rfl⟩
          rw [h3] at h4
          cases h4
      rw [cgX_in h.arm.tree.par hx (by omega) he hp]
      split
      · obtain ⟨u, h1, h2, h3⟩ := ih p hlt (by omega) hep
        refine ⟨u, h1, ?_, h3⟩
        unfold undB at *
        rw [rch_step hp hlt (by have := rch_le h2; omega), h2]
        rfl
      · exact ⟨x, hx, rch_self, rfl⟩
theorem und_par (_hp : ParOk P) {u x p : Nat} (hpx : nth P x = (p : Int)) (hlt : p < x) (h : undB P u x = true) (hne : u ≠ x) : undB P u p = true := by
  unfold undB at *
  have := rch_le h
  rw [rch_step hpx hlt (by omega)] at h
  simpa using h
theorem cg_le (h : ArmAB P W F a b) : ∀ x, x < P.length → endB P x = false → ∀ u, undB P u x = true → (idxP P W F a b u).1 * (cgX P W F a b x).2 ≥ (cgX P W F a b x).1 * (idxP P W F a b u).2 := by
  intro x
  induction x using Nat.strongRecOn with
  | _ x ih =>
    intro hx he u hu
    rcases Nat.eq_zero_or_pos x with rfl | h0
    · have := rch_le hu
      obtain rfl : u = 0 := by omega
      rw [cgX_zero]
      exact Int.le_refl _
    · obtain ⟨p, hp, hlt⟩ := par_of h.arm.tree.par h0 hx
      have hep : endB P p = false := by
        cases hb : endB P p
        · rfl
        · have h3 := (kids_nil (P := P) p).2 hb
          have h4 : (x : Int) ∈ kids P (p : Int) := mem_kidTo.2 ⟨x, hx, hp, rfl⟩
          rw [h3] at h4
          cases h4
      obtain ⟨v, hv1, _, hv⟩ := cg_mem h p (by omega) hep
      have fp : 0 < (cgX P W F a b p).2 := by rw [hv]; exact fr_pos (idx_fr h hv1)
      have fx := fr_pos (idx_fr h hx)
      have hul := rch_le hu
      have fu := fr_pos (idx_fr h (show u < P.length by omega))
      rw [cgX_in h.arm.tree.par hx (by omega) he hp]
      rcases Decidable.em (u = x) with rfl | hne
      · split
        · next hl => simp only [lessP, decide_eq_true_eq] at hl; omega
        · exact Int.le_refl _
      · have hup := ih p hlt (by omega) hep u (und_par h.arm.tree.par hp hlt hu hne)
        split
        · exact hup
        · next hl =>
          have h2 := less_no.1 (by simpa using hl : lessP (cgX P W F a b p) (idxP P W F a b x) = false)
          exact le_trans3 fp (by omega) (by omega) h2 hup
/-- The program's: from the node's own index over a list of nodes. -/
def ltTo (P W F : List Int) (a b : Int) (x : Nat) (s : List Int) : Nat → Int × Int
  | 0 => idxP P W F a b x
  | k + 1 => if betP false (idxP P W F a b (nth s k).toNat) (ltTo P W F a b x s k) = true then idxP P W F a b (nth s k).toNat else ltTo P W F a b x s k
theorem lt_mem {x : Nat} {s : List Int} : ∀ k, k ≤ s.length → ltTo P W F a b x s k = idxP P W F a b x ∨ ∃ j, j < k ∧ ltTo P W F a b x s k = idxP P W F a b (nth s j).toNat
  | 0, _ => .inl rfl
  | k + 1, h => by
    rw [ltTo]
    split
    · exact .inr ⟨k, by omega, rfl⟩
    · rcases lt_mem (x := x) (s := s) k (by omega) with e | ⟨j, hj, e⟩
      · exact .inl e
      · exact .inr ⟨j, by omega, e⟩
theorem lt_fr (h : ArmAB P W F a b) {x : Nat} {s : List Int} (hx : x < P.length) (hs : ∀ j, j < s.length → (nth s j).toNat < P.length) {k : Nat} (hk : k ≤ s.length) : frP (ltTo P W F a b x s k) = true := by
  rcases lt_mem (P := P) (W := W) (F := F) (a := a) (b := b) (x := x) k hk with e | ⟨j, hj, e⟩
  · rw [e]; exact idx_fr h hx
  · rw [e]; exact idx_fr h (hs j (by omega))
theorem lt_le (h : ArmAB P W F a b) {x : Nat} {s : List Int} (hx : x < P.length) (hs : ∀ j, j < s.length → (nth s j).toNat < P.length) : ∀ k, k ≤ s.length → ∀ j, j < k → betP false (idxP P W F a b (nth s j).toNat) (ltTo P W F a b x s k) = false
  | 0, _, j, hj => by omega
  | k + 1, hk, j, hj => by
    have f1 := fr_pos (idx_fr h (hs j (by omega)))
    have f2 := fr_pos (idx_fr h (hs k (by omega)))
    have f3 := fr_pos (lt_fr h hx hs (show k ≤ s.length by omega))
    rw [ltTo]
    rcases Nat.eq_or_lt_of_le (Nat.lt_succ_iff.1 hj) with rfl | hj'
    · split
      · exact bet_refl _ _
      · next hb => simpa using hb
    · have ih := lt_le h hx hs k (by omega) j hj'
      split
      · next hb => exact bet_trans f1 f3 f2 ih (bet_asym hb)
      · exact ih
/-- Both come to the same. -/
theorem cg_lt (h : ArmAB P W F a b) {x : Nat} (hx : x < P.length) (he : endB P x = false) {s : List Int} (hs : ∀ q : Int, q ∈ s ↔ ∃ u : Nat, undB P u x = true ∧ q = (u : Int)) : ltTo P W F a b x s s.length = cgX P W F a b x := by
  have hin : ∀ j, j < s.length → ∃ u : Nat, undB P u x = true ∧ nth s j = (u : Int) ∧ u < P.length := fun j hj => by
    have := List.getElem_mem hj
    rw [← nth_eq hj] at this
    obtain ⟨u, h1, h2⟩ := (hs _).1 this
    exact ⟨u, h1, h2, by have := rch_le h1; omega⟩
  have hsl : ∀ j, j < s.length → (nth s j).toNat < P.length := fun j hj => by
    obtain ⟨u, _, h2, h3⟩ := hin j hj
    omega
  obtain ⟨v, hv1, hv2, hv⟩ := cg_mem h x hx he
  refine fr_eq (lt_fr h hx hsl (Nat.le_refl _)) (by rw [hv]; exact idx_fr h hv1) ?_
  refine bet_eq (up := false) ?_ ?_
  · show lessP _ _ = false
    have hu : ∃ u : Nat, undB P u x = true ∧ ltTo P W F a b x s s.length = idxP P W F a b u := by
      rcases lt_mem (P := P) (W := W) (F := F) (a := a) (b := b) (x := x) s.length (Nat.le_refl _) with e | ⟨j, hj, e⟩
      · exact ⟨x, rch_self, e⟩
      · obtain ⟨u, h1, h2, _⟩ := hin j hj
        exact ⟨u, h1, by rw [e, h2, Int.toNat_natCast]⟩
    obtain ⟨u, h1, e⟩ := hu
    rw [e]
    exact less_no.2 (cg_le h x hx he u h1)
  · rw [hv]
    obtain ⟨j, hj, ej⟩ := List.mem_iff_getElem.1 ((hs (v : Int)).2 ⟨v, hv2, rfl⟩)
    have := lt_le h hx hsl s.length (Nat.le_refl _) j hj
    rw [nth_eq hj, ej, Int.toNat_natCast] at this
    exact this
/-- All charges; those of the nodes below k, the rest indices. -/
def cgL (P W F : List Int) (a b : Int) : List (Int × Int) := (List.range P.length).map (cgX P W F a b)
def cgU (P W F : List Int) (a b : Int) (k : Nat) : List (Int × Int) := (List.range k).map (cgX P W F a b)
def cgM (P W F : List Int) (a b : Int) (k : Nat) : List (Int × Int) := (List.range P.length).map fun z => if z < k then cgX P W F a b z else idxP P W F a b z
theorem cgL_len : (cgL P W F a b).length = P.length := by simp [cgL]
theorem cgU_len (k : Nat) : (cgU P W F a b k).length = k := by simp [cgU]
theorem cgM_len (k : Nat) : (cgM P W F a b k).length = P.length := by simp [cgM]
theorem cgU_all : cgU P W F a b P.length = cgL P W F a b := rfl
theorem cgU_succ (k : Nat) : cgU P W F a b (k + 1) = cgU P W F a b k ++ [cgX P W F a b k] := by simp [cgU, List.range_succ]
theorem cgM_one : cgM P W F a b 1 = ixL P W F a b := by
  apply List.ext_getElem
  · simp [cgM, ixL]
  · intro i h1 h2
    simp only [cgM, ixL, List.getElem_map, List.getElem_range]
    split
    · next h => rw [show i = 0 by omega, cgX_zero]
    · rfl
theorem cgM_all : cgM P W F a b P.length = cgL P W F a b := by
  apply List.ext_getElem
  · simp [cgM, cgL]
  · intro i h1 h2
    simp only [cgM, cgL, List.getElem_map, List.getElem_range]
    rw [if_pos (by simpa [cgM] using h1)]
theorem cgM_nP {k z : Nat} (hz : z < P.length) : nP (cgM P W F a b k) z = if z < k then cgX P W F a b z else idxP P W F a b z := by
  simp [nP, cgM, List.getD_eq_getElem?_getD, hz]
theorem cgM_step (k : Nat) : (cgM P W F a b k).set k (cgX P W F a b k) = cgM P W F a b (k + 1) := by
  apply List.ext_getElem
  · simp [cgM]
  · intro i h1 h2
    rw [List.getElem_set]
    simp only [cgM, List.getElem_map, List.getElem_range]
    by_cases h : k = i
    · subst h
      rw [if_pos rfl, if_pos (by omega)]
    · rw [if_neg h]
      by_cases h' : i < k
      · rw [if_pos h', if_pos (by omega)]
      · rw [if_neg h', if_neg (by omega)]
theorem cgM_same {k : Nat} (h : cgX P W F a b k = idxP P W F a b k) : cgM P W F a b (k + 1) = cgM P W F a b k := by
  rw [← cgM_step, h]
  apply List.ext_getElem
  · simp [cgM]
  · intro i h1 h2
    rw [List.getElem_set]
    simp only [cgM, List.getElem_map, List.getElem_range]
    by_cases h' : k = i
    · subst h'
      rw [if_pos rfl, if_neg (by omega)]
    · rw [if_neg h']
def cgV (P W F : List Int) (a b : Int) : List (Int × Int) := if ixB P W F a b then cgL P W F a b else []
theorem cgV_no (h : ixB P W F a b = false) : cgV P W F a b = [] := by rw [cgV, h]; rfl
theorem cgV_yes (h : ixB P W F a b = true) : cgV P W F a b = cgL P W F a b := by rw [cgV, h]; rfl
theorem cgV_len : (cgV P W F a b).length ≤ 9 := by
  unfold cgV
  split
  · next h =>
    have := (armAB_iff.1 h).arm.n9
    rw [cgL_len]
    exact this
  · exact Nat.zero_le _
end
end Go.Proofs.Ytdhagkckkdaenaa
