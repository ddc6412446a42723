/- Charges and fair fees: both. -/
import Derived.Test.YtfobjkdkjlbkfaaIxA
namespace Go.Proofs.Ytfobjkdkjlbkfaa
open Go.RowKit

section
variable {P W F : List Int} {a b : Int}
/-- The reference's charge: that of the parent, or the node's own index. -/
def cgF (P W F : List Int) (a b : Int) : Nat → Nat → Int × Int
  | 0, x => idxP P W F a b x
  | n + 1, x => if x = 0 ∨ endB P x = true then idxP P W F a b x
      else if lessP (cgF P W F a b n (nth P x).toNat) (idxP P W F a b x) = true then cgF P W F a b n (nth P x).toNat else idxP P W F a b x
def cgX (P W F : List Int) (a b : Int) (x : Nat) : Int × Int := cgF P W F a b x x
theorem cgF_fuel (hp : ParOk P) : ∀ n m x, x < P.length → x ≤ n → x ≤ m → cgF P W F a b n x = cgF P W F a b m x
  | 0, 0, x, _, _, _ => rfl
  | 0, m + 1, x, _, h1, _ => by
    obtain rfl : x = 0 := by omega
    rw [cgF, cgF, if_pos (.inl rfl)]
  | n + 1, 0, x, _, _, h2 => by
    obtain rfl : x = 0 := by omega
    rw [cgF, cgF, if_pos (.inl rfl)]
  | n + 1, m + 1, x, hx, h1, h2 => by
    rw [cgF, cgF]
    by_cases h0 : x = 0 ∨ endB P x = true
    · rw [if_pos h0, if_pos h0]
    · rw [if_neg h0, if_neg h0]
      have := hp.up x (by omega) hx
      rw [cgF_fuel hp n m (nth P x).toNat (by omega) (by omega) (by omega)]
theorem cgX_zero : cgX P W F a b 0 = idxP P W F a b 0 := rfl
theorem cgX_end {x : Nat} (he : endB P x = true) : cgX P W F a b x = idxP P W F a b x := by
  unfold cgX
  cases x
  · rfl
  · rw [cgF, if_pos (.inr he)]
theorem cgX_in (hp : ParOk P) {x p : Nat} (hx : x < P.length) (hx0 : x ≠ 0) (he : endB P x = false) (hpx : nth P x = (p : Int)) :
    cgX P W F a b x = if lessP (cgX P W F a b p) (idxP P W F a b x) = true then cgX P W F a b p else idxP P W F a b x := by
  have := hp.up x (by omega) hx
  obtain ⟨n, rfl⟩ : ∃ n, x = n + 1 := ⟨x - 1, by omega⟩
  unfold cgX
  rw [cgF, if_neg (by rw [he]; simp), hpx, Int.toNat_natCast, cgF_fuel hp n p p (by omega) (by omega) (Nat.le_refl _)]
/-- The charge is the least of the indices on the way. -/
theorem cg_mem (h : ArmAB P W F a b) : ∀ x, x < P.length → endB P x = false → ∃ u, u < P.length ∧ undB P u x = true ∧ cgX P W F a b x = idxP P W F a b u := by
  intro x
  induction x using Nat.strongRecOn with
  | _ x ih =>
    intro hx he
    rcases Nat.eq_zero_or_pos x with rfl | h0
    · exact ⟨0, hx, rch_self, cgX_zero⟩
    · obtain ⟨p, hp, hlt⟩ := par_of h.arm.tree.par h0 hx
      have hep : endB P p = false := by
        cases hb : endB P p
        · rfl
        · have h3 := (kids_nil (P := P) p).2 hb
          have h4 : (x : Int) ∈ kids P (p : Int) := mem_kidTo.2 ⟨x, hx, hp, rfl⟩
          rw [h3] at h4
          cases h4
      rw [cgX_in h.arm.tree.par hx (by omega) he hp]
      split
      · obtain ⟨u, h1, h2, h3⟩ := ih p hlt (by omega) hep
        refine ⟨u, h1, ?_, h3⟩
        unfold undB at *
        rw [rch_step hp hlt (by have := rch_le h2; omega), h2]
        rfl
      · exact ⟨x, hx, rch_self, rfl⟩
theorem und_par (_hp : ParOk P) {u x p : Nat} (hpx : nth P x = (p : Int)) (hlt : p < x) (h : undB P u x = true) (hne : u ≠ x) : undB P u p = true := by
  unfold undB at *
  have := rch_le h
  rw [rch_step hpx hlt (by omega)] at h
  simpa using h
theorem cg_le (h : ArmAB P W F a b) : ∀ x, x < P.length → endB P x = false → ∀ u, undB P u x = true → (idxP P W F a b u).1 * (cgX P W F a b x).2 ≥ (cgX P W F a b x).1 * (idxP P W F a b u).2 := by
  intro x
  induction x using Nat.strongRecOn with
  | _ x ih =>
    intro hx he u hu
    rcases Nat.eq_zero_or_pos x with rfl | h0
    · have := rch_le hu
      obtain rfl : u = 0 := by omega
      rw [cgX_zero]
      exact Int.le_refl _
    · obtain ⟨p, hp, hlt⟩ := par_of h.arm.tree.par h0 hx
      have hep : endB P p = false := by
        cases hb : endB P p
        · rfl
        · have h3 := (kids_nil (P := P) p).2 hb
          have h4 : (x : Int) ∈ kids P (p : Int) := mem_kidTo.2 ⟨x, hx, hp, rfl⟩
          rw [h3] at h4
          cases h4
      obtain ⟨v, hv1, _, hv⟩ := cg_mem h p (by omega) hep
      have fp : 0 < (cgX P W F a b p).2 := by rw [hv]; exact fr_pos (idx_fr h hv1)
      have fx := fr_pos (idx_fr h hx)
      have hul := rch_le hu
      have fu := fr_pos (idx_fr h (show u < P.length by omega))
      rw [cgX_in h.arm.tree.par hx (by omega) he hp]
      rcases Decidable.em (u = x) with rfl | hne
      · split
        · next hl => simp only [lessP, decide_eq_true_eq] at hl; omega
        · exact Int.le_refl _
      · have hup := ih p hlt (by omega) hep u (und_par h.arm.tree.par hp hlt hu hne)
        split
        · exact hup
        · next hl =>
          have h2 := less_no.1 (by simpa using hl : lessP (cgX P W F a b p) (idxP P W F a b x) = false)
          exact le_trans3 fp (by omega) (by omega) h2 hup
/-- The program's: from the node's own index over a list of nodes. -/
def ltTo (P W F : List Int) (a b : Int) (x : Nat) (s : List Int) : Nat → Int × Int
  | 0 => idxP P W F a b x
  | k + 1 => if betP false (idxP P W F a b (nth s k).toNat) (ltTo P W F a b x s k) = true then idxP P W F a b (nth s k).toNat else ltTo P W F a b x s k
theorem lt_mem {x : Nat} {s : List Int} : ∀ k, k ≤ s.length → ltTo P W F a b x s k = idxP P W F a b x ∨ ∃ j, j < k ∧ ltTo P W F a b x s k = idxP P W F a b (nth s j).toNat
  | 0, _ => .inl rfl
  | k + 1, h => by
    rw [ltTo]
    split
    · exact .inr ⟨k, by omega, rfl⟩
    · rcases lt_mem (x := x) (s := s) k (by omega) with e | ⟨j, hj, e⟩
      · exact .inl e
      · exact .inr ⟨j, by omega, e⟩
theorem lt_fr (h : ArmAB P W F a b) {x : Nat} {s : List Int} (hx : x < P.length) (hs : ∀ j, j < s.length → (nth s j).toNat < P.length) {k : Nat} (hk : k ≤ s.length) : frP (ltTo P W F a b x s k) = true := by
  rcases lt_mem (P := P) (W := W) (F := F) (a := a) (b := b) (x := x) k hk with e | ⟨j, hj, e⟩
  · rw [e]; exact idx_fr h hx
  · rw [e]; exact idx_fr h (hs j (by omega))
theorem lt_le (h : ArmAB P W F a b) {x : Nat} {s : List Int} (hx : x < P.length) (hs : ∀ j, j < s.length → (nth s j).toNat < P.length) : ∀ k, k ≤ s.length → ∀ j, j < k → betP false (idxP P W F a b (nth s j).toNat) (ltTo P W F a b x s k) = false
  | 0, _, j, hj => by omega
  | k + 1, hk, j, hj => by
    have f1 := fr_pos (idx_fr h (hs j (by omega)))
    have f2 := fr_pos (idx_fr h (hs k (by omega)))
    have f3 := fr_pos (lt_fr h hx hs (show k ≤ s.length by omega))
    rw [ltTo]
    rcases Nat.eq_or_lt_of_le (Nat.lt_succ_iff.1 hj) with rfl | hj'
    · split
      · exact bet_refl _ _
      · next hb => simpa using hb
    · have ih := lt_le h hx hs k (by omega) j hj'
      split
      · next hb => exact bet_trans f1 f3 f2 ih (bet_asym hb)
      · exact ih
/-- Both come to the same. -/
theorem cg_lt (h : ArmAB P W F a b) {x : Nat} (hx : x < P.length) (he : endB P x = false) {s : List Int} (hs : ∀ q : Int, q ∈ s ↔ ∃ u : Nat, undB P u x = true ∧ q = (u : Int)) : ltTo P W F a b x s s.length = cgX P W F a b x := by
  have hin : ∀ j, j < s.length → ∃ u : Nat, undB P u x = true ∧ nth s j = (u : Int) ∧ u < P.length := fun j hj => by
    have := List.getElem_mem hj
    rw [← nth_eq hj] at this
    obtain ⟨u, h1, h2⟩ := (hs _).1 this
    exact ⟨u, h1, h2, by have := rch_le h1; omega⟩
  have hsl : ∀ j, j < s.length → (nth s j).toNat < P.length := fun j hj => by
    obtain ⟨u, _, h2, h3⟩ := hin j hj
    omega
  obtain ⟨v, hv1, hv2, hv⟩ := cg_mem h x hx he
  refine fr_eq (lt_fr h hx hsl (Nat.le_refl _)) (by rw [hv]; exact idx_fr h hv1) ?_
  refine bet_eq (up := false) ?_ ?_
  · show lessP _ _ = false
    have hu : ∃ u : Nat, undB P u x = true ∧ ltTo P W F a b x s s.length = idxP P W F a b u := by
      rcases lt_mem (P := P) (W := W) (F := F) (a := a) (b := b) (x := x) s.length (Nat.le_refl _) with e | ⟨j, hj, e⟩
      · exact ⟨x, rch_self, e⟩
      · obtain ⟨u, h1, h2, _⟩ := hin j hj
        exact ⟨u, h1, by rw [e, h2, Int.toNat_natCast]⟩
    obtain ⟨u, h1, e⟩ := hu
    rw [e]
    exact less_no.2 (cg_le h x hx he u h1)
  · rw [hv]
    obtain ⟨j, hj, ej⟩ := List.mem_iff_getElem.1 ((hs (v : Int)).2 ⟨v, hv2, rfl⟩)
    have := lt_le h hx hsl s.length (Nat.le_refl _) j hj
    rw [nth_eq hj, ej, Int.toNat_natCast] at this
    exact this
/-- All charges; those of the nodes below k, the rest indices. -/
def cgL (P W F : List Int) (a b : Int) : List (Int × Int) := (List.range P.length).map (cgX P W F a b)
def cgU (P W F : List Int) (a b : Int) (k : Nat) : List (Int × Int) := (List.range k).map (cgX P W F a b)
def cgM (P W F : List Int) (a b : Int) (k : Nat) : List (Int × Int) := (List.range P.length).map fun z => if z < k then cgX P W F a b z else idxP P W F a b z
theorem cgL_len : (cgL P W F a b).length = P.length := by simp [cgL]
theorem cgU_len (k : Nat) : (cgU P W F a b k).length = k := by simp [cgU]
theorem cgM_len (k : Nat) : (cgM P W F a b k).length = P.length := by simp [cgM]
theorem cgU_all : cgU P W F a b P.length = cgL P W F a b := rfl
theorem cgU_succ (k : Nat) : cgU P W F a b (k + 1) = cgU P W F a b k ++ [cgX P W F a b k] := by simp [cgU, List.range_succ]
theorem cgM_one : cgM P W F a b 1 = ixL P W F a b := by
  apply List.ext_getElem
  · simp [cgM, ixL]
  · intro i h1 h2
    simp only [cgM, ixL, List.getElem_map, List.getElem_range]
    split
    · next h => rw [show i = 0 by omega, cgX_zero]
    · rfl
theorem cgM_all : cgM P W F a b P.length = cgL P W F a b := by
  apply List.ext_getElem
  · simp [cgM, cgL]
  · intro i h1 h2
    simp only [cgM, cgL, List.getElem_map, List.getElem_range]
    rw [if_pos (by simpa [cgM] using h1)]
theorem cgM_nP {k z : Nat} (hz : z < P.length) : nP (cgM P W F a b k) z = if z < k then cgX P W F a b z else idxP P W F a b z := by
  simp [nP, cgM, List.getD_eq_getElem?_getD, hz]
theorem cgM_step (k : Nat) : (cgM P W F a b k).set k (cgX P W F a b k) = cgM P W F a b (k + 1) := by
  apply List.ext_getElem
  · simp [cgM]
  · intro i h1 h2
    rw [List.getElem_set]
    simp only [cgM, List.getElem_map, List.getElem_range]
    by_cases h : k = i
    · subst h
      rw [if_pos rfl, if_pos (by omega)]
    · rw [if_neg h]
      by_cases h' : i < k
      · rw [if_pos h', if_pos (by omega)]
      · rw [if_neg h', if_neg (by omega)]
theorem cgM_same {k : Nat} (h : cgX P W F a b k = idxP P W F a b k) : cgM P W F a b (k + 1) = cgM P W F a b k := by
  rw [← cgM_step, h]
  apply List.ext_getElem
  · simp [cgM]
  · intro i h1 h2
    rw [List.getElem_set]
    simp only [cgM, List.getElem_map, List.getElem_range]
    by_cases h' : k = i
    · subst h'
      rw [if_pos rfl, if_neg (by omega)]
    · rw [if_neg h']
def cgV (P W F : List Int) (a b : Int) : List (Int × Int) := if ixB P W F a b then cgL P W F a b else []
theorem cgV_no (h : ixB P W F a b = false) : cgV P W F a b = [] := by rw [cgV, h]; rfl
theorem cgV_yes (h : ixB P W F a b = true) : cgV P W F a b = cgL P W F a b := by rw [cgV, h]; rfl
theorem cgV_len : (cgV P W F a b).length ≤ 9 := by
  unfold cgV
  split
  · next h =>
    have := (armAB_iff.1 h).arm.n9
    rw [cgL_len]
    exact this
  · exact Nat.zero_le _
end

theorem swap_mem {ys : List Int} {k j : Nat} (hk : k < ys.length) (hj : j < ys.length) (q : Int) : q ∈ (ys.set k (nth ys j)).set j (nth ys k) ↔ q ∈ ys := by
  have g : ∀ t, t < ys.length → ((ys.set k (nth ys j)).set j (nth ys k))[t]? = some (if t = j then nth ys k else if t = k then nth ys j else nth ys t) := by
    intro t ht
    rw [List.getElem?_set, List.length_set, List.getElem?_set]
    by_cases e1 : t = j
    · subst e1; simp [hj]
    · rw [if_neg (fun h => e1 h.symm), if_neg e1]
      by_cases e2 : t = k
      · subst e2; simp [hk]
      · rw [if_neg (fun h => e2 h.symm), if_neg e2, List.getElem?_eq_getElem ht, nth_eq ht]
  constructor
  · intro h
    obtain ⟨t, ht, e⟩ := List.mem_iff_getElem.1 h
    have ht' : t < ys.length := by simpa using ht
    have h1 := g t ht'
    rw [List.getElem?_eq_getElem ht, e] at h1
    injection h1 with h1
    rw [h1]
    split
    · rw [nth_eq hk]; exact List.getElem_mem hk
    · split
      · rw [nth_eq hj]; exact List.getElem_mem hj
      · rw [nth_eq ht']; exact List.getElem_mem ht'
  · intro h
    obtain ⟨t, ht, e⟩ := List.mem_iff_getElem.1 h
    have key : ∀ u, u < ys.length → (if u = j then nth ys k else if u = k then nth ys j else nth ys u) = q → q ∈ (ys.set k (nth ys j)).set j (nth ys k) := fun u hu hq => by
      have h1 := g u hu
      rw [hq] at h1
      exact List.mem_of_getElem? h1
    have e' : nth ys t = q := by rw [nth_eq ht]; exact e
    by_cases e1 : t = j
    · subst e1
      by_cases e2 : k = t
      · exact key k hk (by rw [if_pos e2]; rw [e2]; exact e')
      · exact key k hk (by rw [if_neg e2, if_pos rfl]; exact e')
    · by_cases e2 : t = k
      · subst e2
        exact key j hj (by rw [if_pos rfl]; exact e')
      · exact key t ht (by rw [if_neg e1, if_neg e2]; exact e')
theorem swap_len (ys : List Int) (k j : Nat) (x y : Int) : ((ys.set k x).set j y).length = ys.length := by simp
set_option maxRecDepth 20000 in
set_option maxHeartbeats 1000000 in
theorem reverseI_c (B g c : Nat) (xs : List Int) (w : World) (ho : Own w B (some ⟨g, 0, none⟩) c xs) (hn : 1 ≤ xs.length) (hx : xs.length ≤ 16777216) :
    Calls Try.prog 118 #[.slice (some ⟨g, 0, none⟩) xs.length c] w fun e w' => ∃ ys : List Int, e = .returned (.tuple #[]) ∧ Own w' B (some ⟨g, 0, none⟩) c ys ∧ ys.length = xs.length ∧ (∀ q, q ∈ ys ↔ q ∈ xs) ∧ w.grownBy w' (some g) := by
  go_enter Try.func118, Try.ntmps118
  go_wp2
  go_loopw [2, 3] (fun s t wr => ∃ (k j : Nat) (ys : List Int), k + j + 1 = xs.length ∧ s = .int .i64 k ∧ t = .int .i64 j ∧ ys.length = xs.length ∧ Own wr B (some ⟨g, 0, none⟩) c ys ∧ (∀ q, q ∈ ys ↔ q ∈ xs) ∧ w.grownBy wr (some g)) (fun _ t _ => (intOf t).toNat)
  case atStart => exact ⟨0, xs.length - 1, xs, by omega, rfl, by go_num, rfl, ho, fun q => Iff.rfl, World.grownBy.refl _ _⟩
  case round =>
    obtain ⟨k, j, ys, he, rfl, rfl, hl, ho, hm, hg⟩ := hrel
    obtain ⟨wo, rfl⟩ : ∃ wo : World, wo = wr := ⟨_, rfl⟩
    have HE := Lib.hid he
    have HL := Lib.hid hl
    have HM := Lib.hid hm
    have hbk : k < xs.length := by omega
    have hbj : j < xs.length := by omega
    clear he hl hm
    by_cases hlt : k < j
    · have fj := ho.cellN (k := j) (by rw [HL.out]; exact hbj)
      have fk := ho.cellN (k := k) (by rw [HL.out]; exact hbk)
      have i1 : (0 : Int) ≤ (k : Int) := by omega
      have i2 : (k : Int) < (xs.length : Int) := by omega
      have i3 : (0 : Int) ≤ (j : Int) := by omega
      have i4 : (j : Int) < (xs.length : Int) := by omega
      have s1 := ho.set k (nth ys j)
      have s2 := s1.1.set j (nth ys k)
      have hg2 := hg.trans (s1.2.trans s2.2)
      have s3 := s2.1
      have HM2 := Lib.hid (fun q => (swap_mem (by rw [HL.out]; exact hbk) (by rw [HL.out]; exact hbj) q).trans (HM.out q))
      have HL2 := Lib.hid ((swap_len ys k j (nth ys j) (nth ys k)).trans HL.out)
      clear s1 s2
      have zk := ho.frozen k
      have zj := ho.frozen j
      have n1 : ¬ k = j := by omega
      go_wp2
      refine tamed_region (S := fun w' => w'.cell? ⟨g, j, none⟩ = some (.int .i64 (nth ys j)) ∧ w'.cell? ⟨g, k, none⟩ = some (.int .i64 (nth ys k))) (fun t => t == 13 || t == 15) (by kernel_rfl) ?_
      have hS0 := And.intro fj fk
      refine tame0 (k := 0) ?_ rfl (by kernel_rfl) (by kernel_rfl) (by kernel_rfl) (fun _ _ _ h => h) (by kernel_rfl) (fun v => ?_) ?_
      rotate_left
      · (go_simp; all_goals rfl)
      simp only [Act.put, List.setIfInBounds_toArray]
      refine tame0 (k := 1) ?_ rfl (by kernel_rfl) (by kernel_rfl) (by kernel_rfl) (fun _ _ _ h => h) (by kernel_rfl) (fun v => ?_) ?_
      rotate_left
      · (go_simp; all_goals rfl)
      simp only [Act.put]
      refine tame0 (k := 2) ?_ rfl (by kernel_rfl) (by kernel_rfl) (by kernel_rfl) (fun _ _ _ h => h) (by kernel_rfl) (fun v => ?_) ?_
      rotate_left
      · (go_simp; all_goals rfl)
      simp only [Act.put]
      refine tame0 (k := 3) ?_ rfl (by kernel_rfl) (by kernel_rfl) (by kernel_rfl) (fun _ _ _ h => h) (by kernel_rfl) (fun v => ?_) ?_
      rotate_left
      · (go_simp; all_goals rfl)
      simp only [Act.put]
      refine tame0 (k := 4) ?_ rfl (by kernel_rfl) (by kernel_rfl) (by kernel_rfl) (fun _ _ _ h => h) (by kernel_rfl) (fun v => ?_) ?_
      rotate_left
      · (go_simp; all_goals rfl)
      simp only [Act.put]
      refine tame0 (k := 5) ?_ rfl (by kernel_rfl) (by kernel_rfl) (by kernel_rfl) (fun _ _ _ h => h) (by kernel_rfl) (fun v => ?_) ?_
      rotate_left
      · (go_simp; all_goals rfl)
      simp only [Act.put]
      refine tame0 (k := 6) ?_ rfl (by kernel_rfl) (by kernel_rfl) (by kernel_rfl) (fun _ _ _ h => h) (by kernel_rfl) (fun v => ?_) ?_
      rotate_left
      · (go_simp; all_goals rfl)
      simp only [Act.put]
      refine tame0 (k := 8) ?_ rfl (by kernel_rfl) (by kernel_rfl) (by kernel_rfl) (fun _ _ _ h => h) (by kernel_rfl) (fun v => ?_) ?_
      rotate_left
      · (go_simp; all_goals rfl)
      simp only [Act.put]
      refine tame0 (k := 9) ?_ rfl (by kernel_rfl) (by kernel_rfl) (by kernel_rfl) (fun _ _ _ h => h) (by kernel_rfl) (fun v => ?_) ?_
      rotate_left
      · (go_simp; all_goals rfl)
      simp only [Act.put]
      refine tame0 (k := 10) ?_ rfl (by kernel_rfl) (by kernel_rfl) (by kernel_rfl) (fun _ _ _ h => h) (by kernel_rfl) (fun v => ?_) ?_
      rotate_left
      · (go_simp; all_goals rfl)
      simp only [Act.put]
      refine tame (k := 7) ?_ rfl (by kernel_rfl) (by kernel_rfl) (by kernel_rfl) (by kernel_rfl) (fun _ _ _ h => h) (by kernel_rfl) hS0 (fun v hv => ?_) ?_
      rotate_left
      · (obtain ⟨g0, g1⟩ := hv; go_simp; all_goals rfl)
      simp only [Act.put]
      refine tame (k := 11) ?_ rfl (by kernel_rfl) (by kernel_rfl) (by kernel_rfl) (by kernel_rfl) (fun _ _ _ h => h) (by kernel_rfl) hS0 (fun v hv => ?_) ?_
      rotate_left
      · (obtain ⟨g0, g1⟩ := hv; go_simp; all_goals rfl)
      simp only [Act.put]
      refine tame0 (k := 12) ?_ rfl (by kernel_rfl) (by kernel_rfl) (by kernel_rfl) (fun _ _ _ h => h) (by kernel_rfl) (fun v => ?_) ?_
      rotate_left
      · (go_simp; all_goals rfl)
      simp only [Act.put]
      clear hS0
      refine tame_one (k := 13) (by kernel_rfl) rfl (by kernel_rfl) ?_
      go_simp
      refine tame0 (k := 14) ?_ rfl (by kernel_rfl) (by kernel_rfl) (by kernel_rfl) (fun _ _ _ h => h) (by kernel_rfl) (fun v => ?_) ?_
      rotate_left
      · (go_simp; all_goals rfl)
      simp only [Act.put, List.setIfInBounds_toArray]
      refine tame_one (k := 15) (by kernel_rfl) rfl (by kernel_rfl) ?_
      go_simp
      refine tame_end (by kernel_rfl) ?_
      clear fj fk zk zj
      go_wp2
      go_roundw
      case rel => exact ⟨k + 1, j - 1, _, by have := HE.out; omega, by go_num, by go_num, HL2.out, s3.drew, HM2.out, ⟨hg2.os, hg2.tape, hg2.output, hg2.size, hg2.block⟩⟩
      case measure => simp [intOf] <;> omega
    · go_wp2
      refine bodyPost_end (v := .tuple #[]) (by simp [results, Try.results118, go_sem]) rfl ⟨ys, rfl, ho, HL.out, HM.out, hg⟩
theorem und_chain {P : List Int} (hp : ParOk P) {u y : Nat} : ∀ x, x < P.length → undB P u x = true → undB P y x = true → u < y → undB P u y = true := by
  intro x
  induction x using Nat.strongRecOn with
  | _ x ih =>
    intro hx hu hy hlt
    rcases Decidable.em (y = x) with rfl | hne
    · exact hu
    · have := rch_le hy
      obtain ⟨q, hq, hql⟩ := par_of hp (show y < x by omega) hx
      exact ih q hql (by omega) (und_par hp hq hql hu (by omega)) (und_par hp hq hql hy hne) hlt
theorem und_trans {P : List Int} (hp : ParOk P) {u y : Nat} : ∀ {x}, x < P.length → undB P u y = true → undB P y x = true → undB P u x = true := by
  intro x
  induction x using Nat.strongRecOn with
  | _ x ih =>
    intro hx hu hy
    rcases Decidable.em (y = x) with rfl | hne
    · exact hu
    · have h1 := rch_le hy
      have h2 := rch_le hu
      obtain ⟨q, hq, hql⟩ := par_of hp (show y < x by omega) hx
      have := ih q hql (by omega) hu (und_par hp hq hql hy hne)
      unfold undB at *
      rw [rch_step hq hql (by omega)]
      exact this
theorem und_zero {P : List Int} (hp : ParOk P) : ∀ x, x < P.length → undB P 0 x = true := by
  intro x
  induction x using Nat.strongRecOn with
  | _ x ih =>
    intro hx
    rcases Nat.eq_zero_or_pos x with rfl | h0
    · exact rch_self
    · obtain ⟨q, hq, hql⟩ := par_of hp h0 hx
      unfold undB
      rw [rch_step hq hql h0]
      exact ih q hql (by omega)
set_option maxRecDepth 20000 in
set_option maxHeartbeats 1000000 in
theorem way_c (A1 : Option Addr) (P : List Int) (c1 : Nat) (A2 : Option Addr) (n2 c2 : Nat) (x : Nat) (w : World) (h1 : Rd w A1 (ints P)) (hp : ParOk P) (hx : x < P.length) (hn : P.length ≤ 24) :
    Calls Try.prog 64 #[trV A1 P.length c1 A2 n2 c2, .int .i64 (x : Int)] w fun e w' => ∃ (A : Option Addr) (c : Nat) (s : List Int), e = .returned (.slice A s.length c) ∧ Own w' w.heap.size A c s ∧ (∀ q : Int, q ∈ s ↔ ∃ u : Nat, undB P u x = true ∧ q = (u : Int)) ∧ s.length ≤ 24 ∧ Below w.heap.size w w' := by
  have HB1 : Below w.heap.size w ((w.alloc (.cells #[.slice A1 P.length c1, .slice A2 n2 c2] 26)).alloc (.cells #[] 3)) := ((Below.refl _ _).alloc (Nat.le_refl _) _).alloc (by simp) _
  have bx := (Bx.new w (.slice A1 P.length c1) (.slice A2 n2 c2) 26).alloc (.cells #[] 3)
  have O0 := Own.lit0 (w.alloc (.cells #[.slice A1 P.length c1, .slice A2 n2 c2] 26)) (w.heap.size + 1) (by simp)
  have hm0 : ∀ q : Int, q ∈ ([] : List Int) ↔ ∃ u : Nat, undB P u x = true ∧ x + 1 ≤ u ∧ q = (u : Int) := fun q => ⟨fun h => (by cases h), fun ⟨u, h, h', _⟩ => by have := rch_le h; omega⟩
  go_enter Try.func64, Try.ntmps64
  have HM0 := Lib.hid hm0
  clear hm0
  go_wp2
  go_loopw [1, 5] (fun t s wr => ∃ (m : Nat) (j : Int) (A : Option Addr) (c : Nat) (xs : List Int), m ≤ P.length ∧ j + 1 = (m : Int) ∧ t = .int .i64 j ∧ s = .slice A xs.length c ∧ xs.length + m ≤ x + 1 ∧ (0 < m ∨ 0 < xs.length) ∧ (0 < m → undB P (m - 1) x = true) ∧ (∀ q : Int, q ∈ xs ↔ ∃ u : Nat, undB P u x = true ∧ m ≤ u ∧ q = (u : Int)) ∧ Own wr (w.heap.size + 1) A c xs ∧ Bx wr w.heap.size (.slice A1 P.length c1) (.slice A2 n2 c2) ∧ Below w.heap.size w wr) (fun t _ _ => (intOf t + 1).toNat)
  case atStart => exact ⟨x + 1, x, _, _, [], by omega, by omega, rfl, rfl, by simp, .inl (by omega), fun _ => rch_self, HM0.out, O0, bx, HB1⟩
  case round =>
    clear O0 bx HB1 HM0
    obtain ⟨wo, rfl⟩ : ∃ wo : World, wo = wr := ⟨_, rfl⟩
    obtain ⟨m, j, A, c, xs, hml, hj, rfl, rfl, hlen, hpos, hum, hmem, ho, hb, hB⟩ := hrel
    have HU := Lib.hid hum
    have HM := Lib.hid hmem
    clear hum hmem
    obtain ⟨f0, f1, f2, f3, f4⟩ := id hb
    rcases m with _ | y
    · obtain rfl : j = -1 := by omega
      have hpos' : 1 ≤ xs.length := by omega
      obtain ⟨g, rfl, hg1, hg2⟩ := ho.form hpos'
      clear hpos hj
      go_wp2_with fail
      refine (reverseI_c _ g c xs _ ho hpos' (by omega)).mono ?_
      rintro e w2 ⟨ys, rfl, o2, hl2, hm2, hgr⟩
      have HL := Lib.hid hl2
      have HMM : Hid (∀ q : Int, q ∈ ys ↔ ∃ u : Nat, undB P u x = true ∧ q = (u : Int)) := Lib.hid fun q => by
        rw [hm2, HM.out]
        constructor
        · rintro ⟨u, h1, _, h2⟩; exact ⟨u, h1, h2⟩
        · rintro ⟨u, h1, h2⟩; exact ⟨u, h1, Nat.zero_le _, h2⟩
      have HB2 := hB.grown hgr hB.size (fun k hk => by injection hk with hk; omega)
      clear hl2 hm2 hgr
      go_wp2
      go_ret
      exact ⟨_, c, ys, by rw [HL.out] <;> rfl, o2.mono (by omega), HMM.out, by rw [HL.out]; omega, HB2⟩
    · obtain rfl : j = (y : Int) := by omega
      clear hj hpos
      have hyl : y < P.length := by omega
      have i0 : (0 : Int) ≤ (y : Int) := by omega
      obtain ⟨a1, rfl, q1⟩ := (h1.below hB (Nat.le_refl _)).intN (k := y) hyl
      have i1 : (y : Int) < (P.length : Int) := by omega
      have hpar : ∃ mm : Nat, mm ≤ y ∧ nth P y + 1 = (mm : Int) ∧ (0 < mm → undB P (mm - 1) x = true) ∧ (∀ u : Nat, undB P u x = true → (mm ≤ u ↔ y ≤ u)) := by
        have hy := HU.out (by omega)
        rw [Nat.add_sub_cancel] at hy
        rcases Nat.eq_zero_or_pos y with rfl | h0
        · exact ⟨0, Nat.le_refl _, by rw [hp.zero]; rfl, fun h => by omega, fun u _ => Iff.rfl⟩
        · obtain ⟨p, hpp, hpl⟩ := par_of hp h0 hyl
          have hup : undB P p y = true := by
            unfold undB
            rw [rch_step hpp hpl hpl, rch_self]
            rfl
          refine ⟨p + 1, by omega, by rw [hpp]; omega, fun _ => ?_, fun u hu => ⟨fun h => ?_, fun h => by omega⟩⟩
          · rw [Nat.add_sub_cancel]
            exact und_trans hp hx hup hy
          · rcases Nat.lt_or_ge u y with hlt | hge
            · have h3 := und_par hp hpp hpl (und_chain hp x hx hu hy hlt) (by omega)
              have := rch_le h3
              omega
            · exact hge
      obtain ⟨mm, hmm1, hmm2, hmm3, hmm4⟩ := hpar
      have HN : Hid (∀ q : Int, q ∈ xs ++ [(y : Int)] ↔ ∃ u : Nat, undB P u x = true ∧ mm ≤ u ∧ q = (u : Int)) := Lib.hid fun q => by
        have hy := HU.out (by omega)
        rw [Nat.add_sub_cancel] at hy
        rw [List.mem_append, List.mem_singleton, HM.out]
        constructor
        · rintro (⟨u, h1, h2, h3⟩ | rfl)
          · exact ⟨u, h1, by omega, h3⟩
          · exact ⟨y, hy, by omega, rfl⟩
        · rintro ⟨u, h1, h2, h3⟩
          have := (hmm4 u h1).1 h2
          rcases Nat.eq_or_lt_of_le this with rfl | h4
          · exact .inr h3
          · exact .inl ⟨u, h1, by omega, h3⟩
      have HU2 := Lib.hid hmm3
      have HJ := Lib.hid hmm2
      clear hmm2 hmm3 hmm4
      go_wp2_with (at_builtin; refine wp_append1 _ _ _ rfl _ _ rfl (w.heap.size + 1) A _ c xs rfl rfl ho rfl (by omega) (by omega) ?_; intro A5 c5 w5 ho5 hg5 hb5; have hx5 := hb.grown hg5 (row_ne ho (by omega)); have HB5 := hB.grown hg5 hB.size (fun k hk => by have := ho.ge k hk; omega); have q5 := (h1.below HB5 (Nat.le_refl _)).intN (k := y) hyl; obtain ⟨a5, e5, q5⟩ := q5; injection e5 with e5; subst e5; clear hg5 hb5; obtain ⟨v0, v1, v2, v3, v4⟩ := id hx5)
      go_roundw
      case rel => exact ⟨mm, nth P y, A5, c5, _, by omega, HJ.out, rfl, by rw [List.length_append]; rfl, by rw [List.length_append]; simp; omega, .inr (by rw [List.length_append]; simp), HU2.out, HN.out, ho5, hx5, HB5⟩
      case measure => have := HJ.out; simp [intOf] <;> omega
theorem cg_fr {P W F : List Int} {a b : Int} (h : ArmAB P W F a b) {x : Nat} (hx : x < P.length) : frP (cgX P W F a b x) = true := by
  cases he : endB P x
  · obtain ⟨u, h1, _, h3⟩ := cg_mem h x hx he
    rw [h3]
    exact idx_fr h h1
  · rw [cgX_end he]
    exact idx_fr h hx
set_option maxRecDepth 20000 in
set_option maxHeartbeats 2000000 in
theorem l8Charges_c (A1 : Option Addr) (P : List Int) (c1 : Nat) (A2 : Option Addr) (W : List Int) (c2 : Nat) (A3 : Option Addr) (F : List Int) (c3 : Nat) (a b : Int) (hk : ArmAB P W F a b) (w : World) (h : RdM w A1 P A2 W A3 F) :
    Calls Try.prog 66 #[mkV A1 P.length c1 A2 W.length c2 A3 F.length c3, .int .i64 a, .int .i64 b] w fun e w' => ∃ g c, e = .returned (.slice (some ⟨g, 0, none⟩) P.length c) ∧ OwnP w' w.heap.size (some ⟨g, 0, none⟩) c (cgL P W F a b) ∧ Below w.heap.size w w' := by
  have hok := hk.arm
  have hn1 := hok.tree.n1
  have hn9 := hok.n9
  have hpar := hok.tree.par
  have HWL := Lib.hid hok.tree.len
  have HFR := Lib.hid (fun z (hz : z < P.length) => frP_iff.1 (idx_fr hk hz))
  have HCR := Lib.hid (fun z (hz : z < P.length) => frP_iff.1 (cg_fr hk hz))
  obtain ⟨a2, rfl, _⟩ := h.r2.intN (k := 0) (by rw [HWL.out]; omega)
  obtain ⟨a1, rfl, _⟩ := h.r1.intN (k := 0) (by omega)
  have HB1 : Below w.heap.size w (w.alloc (.cells #[.slice (some a1) P.length c1, .slice (some a2) W.length c2, .slice A3 F.length c3] 28)) := (Below.refl _ _).alloc (Nat.le_refl _) _
  have bx := Bx3.new w (.slice (some a1) P.length c1) (.slice (some a2) W.length c2) (.slice A3 F.length c3) 28
  go_enter Try.func66, Try.ntmps66
  go_wp2_with fail
  refine (l8Index_c (some a1) P c1 (some a2) W c2 A3 F c3 a b hk _ (h.below HB1 (Nat.le_refl _))).mono ?_
  rintro e w2 ⟨g, c, rfl, ho, hb2⟩
  have szz : w.heap.size + 1 ≤ (w.alloc (.cells #[.slice (some a1) P.length c1, .slice (some a2) W.length c2, .slice A3 F.length c3] 28)).heap.size := by simp
  have R0 := PrR.mk (w := w) (ho.mono szz) (bx.below hb2) (bUp HB1 hb2 HB1.size)
  rw [← cgM_one] at R0
  clear ho hb2 bx HB1 szz
  go_wp2
  go_loopw [8] (fun t wr => ∃ k : Nat, 1 ≤ k ∧ k ≤ P.length ∧ t = .int .i64 (k : Int) ∧ PrR w wr g c (cgM P W F a b k) (.slice (some a1) P.length c1) (.slice (some a2) W.length c2) (.slice A3 F.length c3)) (fun t _ => P.length - (intOf t).toNat)
  case atStart => exact ⟨1, Nat.le_refl _, hn1, rfl, R0⟩
  case round =>
    clear R0
    obtain ⟨k, hk1, hkl, rfl, R⟩ := hrel
    obtain ⟨v, rfl⟩ : ∃ v : World, v = wr := ⟨_, rfl⟩
    by_cases hlt : k < P.length
    · obtain ⟨p, hpk, hpl⟩ := par_of hpar (show 0 < k by omega) hlt
      obtain ⟨aq, eq, q1⟩ := (h.below R.hb (Nat.le_refl _)).r1.intN (k := k) hlt
      injection eq with eq
      subst eq
      rw [hpk] at q1
      obtain ⟨aq, eq, q2⟩ := (h.below R.hb (Nat.le_refl _)).r2.intN (k := k) (by rw [HWL.out]; exact hlt)
      injection eq with eq
      subst eq
      obtain ⟨f0, f1, f2, fz⟩ := id R.b
      have j1 : (k : Int) < (W.length : Int) := by rw [HWL.out]; omega
      have j0 : (0 : Int) ≤ (k : Int) := by omega
      have j2 : (k : Int) < (P.length : Int) := by omega
      have j3 : (p : Int) < (P.length : Int) := by omega
      have j4 : (0 : Int) ≤ (p : Int) := by omega
      have HML := Lib.hid (cgM_len (P := P) (W := W) (F := F) (a := a) (b := b) k)
      cases he : endB P k
      · have ew := neB_wt hok hlt he
        obtain ⟨cp0, cp1⟩ := R.o.cells (k := p) (by rw [HML.out]; omega)
        obtain ⟨ck0, ck1⟩ := R.o.cells (k := k) (by rw [HML.out]; exact hlt)
        change v.cell? ⟨g, p * 2, none⟩ = some (.int .i64 (nP (cgM P W F a b k) p).1) at cp0
        change v.cell? ⟨g, p * 2 + 1, none⟩ = some (.int .i64 (nP (cgM P W F a b k) p).2) at cp1
        change v.cell? ⟨g, k * 2, none⟩ = some (.int .i64 (nP (cgM P W F a b k) k).1) at ck0
        change v.cell? ⟨g, k * 2 + 1, none⟩ = some (.int .i64 (nP (cgM P W F a b k) k).2) at ck1
        rw [cgM_nP (by omega), if_pos hpl] at cp0 cp1
        rw [cgM_nP hlt, if_neg (by omega)] at ck0 ck1
        have gl := (R.o.ltk g rfl)
        have g1 := HCR.out p (by omega)
        have g2 := HFR.out k hlt
        obtain ⟨Q, hQ⟩ : ∃ Q, Q = lessP (cgX P W F a b p) (idxP P W F a b k) := ⟨_, rfl⟩
        have HX : Hid (cgX P W F a b k = if Q = true then cgX P W F a b p else idxP P W F a b k) := Lib.hid (by rw [hQ]; exact cgX_in hpar hlt (by omega) he hpk)
        have HQ := Lib.hid hQ.symm
        clear hQ he hpk
        go_upto_region 6 with fail
        have hd1 : Below v.heap.size v v.drew := Below.drew (Below.refl _ _)
        have SK1 : Hid (∀ w', Below v.heap.size v w' → w'.cell? ⟨w.heap.size, 0, none⟩ = some (.slice (some a1) P.length c1) ∧ w'.cell? ⟨w.heap.size, 1, none⟩ = some (.slice (some a2) W.length c2) ∧ w'.cell? (a2.add k) = some (.int .i64 (nth W k)) ∧ w'.cell? ⟨g, p * 2, none⟩ = some (.int .i64 (cgX P W F a b p).1) ∧ w'.cell? ⟨g, p * 2 + 1, none⟩ = some (.int .i64 (cgX P W F a b p).2) ∧ w'.cell? ⟨g, k * 2, none⟩ = some (.int .i64 (idxP P W F a b k).1) ∧ w'.cell? ⟨g, k * 2 + 1, none⟩ = some (.int .i64 (idxP P W F a b k).2)) := Lib.hid fun w' HV => ⟨(HV.cell (p := ⟨w.heap.size, 0, none⟩) fz).trans f0, (HV.cell (p := ⟨w.heap.size, 1, none⟩) fz).trans f1, (HV.cell (cell_lt q2)).trans q2, (HV.cell (p := ⟨g, p * 2, none⟩) gl).trans cp0, (HV.cell (p := ⟨g, p * 2 + 1, none⟩) gl).trans cp1, (HV.cell (p := ⟨g, k * 2, none⟩) gl).trans ck0, (HV.cell (p := ⟨g, k * 2 + 1, none⟩) gl).trans ck1⟩
        clear f0 f1 q2 cp0 cp1 ck0 ck1
        have hS1_0 := SK1.out _ hd1
        refine tamed_region (S := fun w' => w'.cell? ⟨w.heap.size, 0, none⟩ = some (.slice (some a1) P.length c1) ∧ w'.cell? ⟨w.heap.size, 1, none⟩ = some (.slice (some a2) W.length c2) ∧ w'.cell? (a2.add k) = some (.int .i64 (nth W k)) ∧ w'.cell? ⟨g, p * 2, none⟩ = some (.int .i64 (cgX P W F a b p).1) ∧ w'.cell? ⟨g, p * 2 + 1, none⟩ = some (.int .i64 (cgX P W F a b p).2) ∧ w'.cell? ⟨g, k * 2, none⟩ = some (.int .i64 (idxP P W F a b k).1) ∧ w'.cell? ⟨g, k * 2 + 1, none⟩ = some (.int .i64 (idxP P W F a b k).2)) (fun _ => false) (by kernel_rfl) ?_
        refine tame0 (k := 0) ?_ rfl (by kernel_rfl) (by kernel_rfl) (by kernel_rfl) (fun _ _ _ h => h) (by kernel_rfl) (fun v => ?_) ?_
        rotate_left
        · (go_simp; all_goals rfl)
        simp only [Act.put, List.setIfInBounds_toArray]
        refine tame0 (k := 1) ?_ rfl (by kernel_rfl) (by kernel_rfl) (by kernel_rfl) (fun _ _ _ h => h) (by kernel_rfl) (fun v => ?_) ?_
        rotate_left
        · (go_simp; all_goals rfl)
        simp only [Act.put]
        refine tame (k := 2) ?_ rfl (by kernel_rfl) (by kernel_rfl) (by kernel_rfl) (by kernel_rfl) (fun _ _ _ h => h) (by kernel_rfl) hS1_0 (fun v hv => ?_) ?_
        rotate_left
        · (obtain ⟨k1, k2, k3, k4, k5, k6, k7⟩ := hv; go_simp; all_goals rfl)
        simp only [Act.put]
        refine tame0 (k := 3) ?_ rfl (by kernel_rfl) (by kernel_rfl) (by kernel_rfl) (fun _ _ _ h => h) (by kernel_rfl) (fun v => ?_) ?_
        rotate_left
        · (go_simp; all_goals rfl)
        simp only [Act.put]
        refine tame0 (k := 4) ?_ rfl (by kernel_rfl) (by kernel_rfl) (by kernel_rfl) (fun _ _ _ h => h) (by kernel_rfl) (fun v => ?_) ?_
        rotate_left
        · (go_simp; all_goals rfl)
        simp only [Act.put]
        refine tame (k := 5) ?_ rfl (by kernel_rfl) (by kernel_rfl) (by kernel_rfl) (by kernel_rfl) (fun _ _ _ h => h) (by kernel_rfl) hS1_0 (fun v hv => ?_) ?_
        rotate_left
        · (obtain ⟨k1, k2, k3, k4, k5, k6, k7⟩ := hv; go_simp; all_goals rfl)
        simp only [Act.put]
        refine tame0 (k := 6) ?_ rfl (by kernel_rfl) (by kernel_rfl) (by kernel_rfl) (fun _ _ _ h => h) (by kernel_rfl) (fun v => ?_) ?_
        rotate_left
        · (go_simp; all_goals rfl)
        simp only [Act.put]
        refine tame0 (k := 7) ?_ rfl (by kernel_rfl) (by kernel_rfl) (by kernel_rfl) (fun _ _ _ h => h) (by kernel_rfl) (fun v => ?_) ?_
        rotate_left
        · (go_simp; all_goals rfl)
        simp only [Act.put]
        refine tame0 (k := 8) ?_ rfl (by kernel_rfl) (by kernel_rfl) (by kernel_rfl) (fun _ _ _ h => h) (by kernel_rfl) (fun v => ?_) ?_
        rotate_left
        · (go_simp; all_goals rfl)
        simp only [Act.put]
        refine tame0 (k := 9) ?_ rfl (by kernel_rfl) (by kernel_rfl) (by kernel_rfl) (fun _ _ _ h => h) (by kernel_rfl) (fun v => ?_) ?_
        rotate_left
        · (go_simp; all_goals rfl)
        simp only [Act.put]
        refine tame0 (k := 10) ?_ rfl (by kernel_rfl) (by kernel_rfl) (by kernel_rfl) (fun _ _ _ h => h) (by kernel_rfl) (fun v => ?_) ?_
        rotate_left
        · (go_simp; all_goals rfl)
        simp only [Act.put]
        refine tame (k := 11) ?_ rfl (by kernel_rfl) (by kernel_rfl) (by kernel_rfl) (by kernel_rfl) (fun _ _ _ h => h) (by kernel_rfl) hS1_0 (fun v hv => ?_) ?_
        rotate_left
        · (obtain ⟨k1, k2, k3, k4, k5, k6, k7⟩ := hv; go_simp; all_goals rfl)
        simp only [Act.put]
        refine tame0 (k := 12) ?_ rfl (by kernel_rfl) (by kernel_rfl) (by kernel_rfl) (fun _ _ _ h => h) (by kernel_rfl) (fun v => ?_) ?_
        rotate_left
        · (go_simp; all_goals rfl)
        simp only [Act.put]
        refine tame0 (k := 13) ?_ rfl (by kernel_rfl) (by kernel_rfl) (by kernel_rfl) (fun _ _ _ h => h) (by kernel_rfl) (fun v => ?_) ?_
        rotate_left
        · (go_simp; all_goals rfl)
        simp only [Act.put]
        refine tame0 (k := 14) ?_ rfl (by kernel_rfl) (by kernel_rfl) (by kernel_rfl) (fun _ _ _ h => h) (by kernel_rfl) (fun v => ?_) ?_
        rotate_left
        · (go_simp; all_goals rfl)
        simp only [Act.put]
        refine tame (k := 15) ?_ rfl (by kernel_rfl) (by kernel_rfl) (by kernel_rfl) (by kernel_rfl) (fun _ _ _ h => h) (by kernel_rfl) hS1_0 (fun v hv => ?_) ?_
        rotate_left
        · (obtain ⟨k1, k2, k3, k4, k5, k6, k7⟩ := hv; go_simp; all_goals rfl)
        simp only [Act.put]
        refine tame_one (k := 16) (by kernel_rfl) rfl (by kernel_rfl) ?_
        go_simp
        refine (l2Less_is _ _ _ _ Q HQ.out (by omega) (by omega) (by omega) (by omega) (by omega) (by omega) (by omega) (by omega) _).mono ?_
        rintro e w5 ⟨rfl, b5⟩
        have hd1_1 := bUp hd1 b5 (Nat.le_refl _)
        have hS1_1 := Lib.hid (SK1.out _ hd1_1)
        refine ⟨by first | exact hS1_1 | exact Hid.out hS1_1, ?_⟩
        refine tame_one (k := 17) (by kernel_rfl) rfl (by kernel_rfl) ?_
        go_simp
        refine ⟨by first | exact hS1_1 | exact Hid.out hS1_1, ?_⟩
        refine tame_end (by kernel_rfl) ?_
        have R5 := R.below ((Below.drew (Below.refl v.heap.size v)).trans b5)
        clear R SK1 hd1 hd1_1 hS1_0 hS1_1 b5 g1 g2 gl fz f2
        have HS := Lib.hid (cgM_step (P := P) (W := W) (F := F) (a := a) (b := b) k)
        cases Q
        · have HN := Lib.hid (cgM_same (P := P) (W := W) (F := F) (a := a) (b := b) (k := k) (by rw [HX.out]; rfl))
          go_wp2
          go_roundw
          case rel => exact ⟨k + 1, by omega, by omega, by go_num, by rw [HN.out]; exact R5⟩
          case measure => simp [intOf] <;> omega
        · have HX2 : Hid (cgX P W F a b k = ((cgX P W F a b p).1, (cgX P W F a b p).2)) := Lib.hid (by rw [HX.out]; rfl)
          obtain ⟨cp0, cp1⟩ := R5.o.cells (k := p) (by rw [HML.out]; omega)
          obtain ⟨ck0, ck1⟩ := R5.o.cells (k := k) (by rw [HML.out]; exact hlt)
          change w5.cell? ⟨g, p * 2, none⟩ = some (.int .i64 (nP (cgM P W F a b k) p).1) at cp0
          change w5.cell? ⟨g, p * 2 + 1, none⟩ = some (.int .i64 (nP (cgM P W F a b k) p).2) at cp1
          rw [cgM_nP (by omega), if_pos hpl] at cp0 cp1
          have z0 := R5.o.frozen (k * 2)
          have z1 := R5.o.frozen (k * 2 + 1)
          have R6 := R5.set (cgX P W F a b p).1 (cgX P W F a b p).2 (k := k) (by rw [HML.out]; exact hlt)
          rw [← HX2.out, HS.out] at R6
          clear R5
          go_wp2
          go_roundw
          case rel => exact ⟨k + 1, by omega, by omega, by go_num, R6⟩
          case measure => simp [intOf] <;> omega
      · have ew := neB_wt hok hlt he
        have HN := Lib.hid (cgM_same (W := W) (F := F) (a := a) (b := b) (cgX_end he))
        clear he hpk
        go_upto_region 6 with fail
        have hd2 : Below v.heap.size v v.drew := Below.drew (Below.refl _ _)
        have SK2 : Hid (∀ w', Below v.heap.size v w' → w'.cell? ⟨w.heap.size, 0, none⟩ = some (.slice (some a1) P.length c1) ∧ w'.cell? ⟨w.heap.size, 1, none⟩ = some (.slice (some a2) W.length c2) ∧ w'.cell? (a2.add k) = some (.int .i64 (nth W k))) := Lib.hid fun w' HV => ⟨(HV.cell (p := ⟨w.heap.size, 0, none⟩) fz).trans f0, (HV.cell (p := ⟨w.heap.size, 1, none⟩) fz).trans f1, (HV.cell (cell_lt q2)).trans q2⟩
        clear f0 f1 q2
        have hS2_0 := SK2.out _ hd2
        refine tamed_region (S := fun w' => w'.cell? ⟨w.heap.size, 0, none⟩ = some (.slice (some a1) P.length c1) ∧ w'.cell? ⟨w.heap.size, 1, none⟩ = some (.slice (some a2) W.length c2) ∧ w'.cell? (a2.add k) = some (.int .i64 (nth W k))) (fun _ => false) (by kernel_rfl) ?_
        refine tame0 (k := 0) ?_ rfl (by kernel_rfl) (by kernel_rfl) (by kernel_rfl) (fun _ _ _ h => h) (by kernel_rfl) (fun v => ?_) ?_
        rotate_left
        · (go_simp; all_goals rfl)
        simp only [Act.put, List.setIfInBounds_toArray]
        refine tame0 (k := 1) ?_ rfl (by kernel_rfl) (by kernel_rfl) (by kernel_rfl) (fun _ _ _ h => h) (by kernel_rfl) (fun v => ?_) ?_
        rotate_left
        · (go_simp; all_goals rfl)
        simp only [Act.put]
        refine tame (k := 2) ?_ rfl (by kernel_rfl) (by kernel_rfl) (by kernel_rfl) (by kernel_rfl) (fun _ _ _ h => h) (by kernel_rfl) hS2_0 (fun v hv => ?_) ?_
        rotate_left
        · (obtain ⟨k1, k2, k3⟩ := hv; go_simp; all_goals rfl)
        simp only [Act.put]
        refine tame0 (k := 3) ?_ rfl (by kernel_rfl) (by kernel_rfl) (by kernel_rfl) (fun _ _ _ h => h) (by kernel_rfl) (fun v => ?_) ?_
        rotate_left
        · (go_simp; all_goals rfl)
        simp only [Act.put]
        refine tame0 (k := 4) ?_ rfl (by kernel_rfl) (by kernel_rfl) (by kernel_rfl) (fun _ _ _ h => h) (by kernel_rfl) (fun v => ?_) ?_
        rotate_left
        · (go_simp; all_goals rfl)
        simp only [Act.put]
        refine tame (k := 5) ?_ rfl (by kernel_rfl) (by kernel_rfl) (by kernel_rfl) (by kernel_rfl) (fun _ _ _ h => h) (by kernel_rfl) hS2_0 (fun v hv => ?_) ?_
        rotate_left
        · (obtain ⟨k1, k2, k3⟩ := hv; go_simp; all_goals rfl)
        simp only [Act.put]
        refine tame0 (k := 6) ?_ rfl (by kernel_rfl) (by kernel_rfl) (by kernel_rfl) (fun _ _ _ h => h) (by kernel_rfl) (fun v => ?_) ?_
        rotate_left
        · (go_simp; all_goals rfl)
        simp only [Act.put]
        refine tame0 (k := 7) ?_ rfl (by kernel_rfl) (by kernel_rfl) (by kernel_rfl) (fun _ _ _ h => h) (by kernel_rfl) (fun v => ?_) ?_
        rotate_left
        · (go_simp; all_goals rfl)
        simp only [Act.put]
        refine tame_no (k := 8) rfl (by kernel_rfl) (by kernel_rfl) (by kernel_rfl) (fun _ _ _ h => h) (by kernel_rfl) ?_
        simp only [Act.put]
        refine tame_no (k := 9) rfl (by kernel_rfl) (by kernel_rfl) (by kernel_rfl) (fun _ _ _ h => h) (by kernel_rfl) ?_
        simp only [Act.put]
        refine tame_no (k := 10) rfl (by kernel_rfl) (by kernel_rfl) (by kernel_rfl) (fun _ _ _ h => h) (by kernel_rfl) ?_
        simp only [Act.put]
        refine tame_no (k := 11) rfl (by kernel_rfl) (by kernel_rfl) (by kernel_rfl) (fun _ _ _ h => h) (by kernel_rfl) ?_
        simp only [Act.put]
        refine tame_no (k := 12) rfl (by kernel_rfl) (by kernel_rfl) (by kernel_rfl) (fun _ _ _ h => h) (by kernel_rfl) ?_
        simp only [Act.put]
        refine tame_no (k := 13) rfl (by kernel_rfl) (by kernel_rfl) (by kernel_rfl) (fun _ _ _ h => h) (by kernel_rfl) ?_
        simp only [Act.put]
        refine tame_no (k := 14) rfl (by kernel_rfl) (by kernel_rfl) (by kernel_rfl) (fun _ _ _ h => h) (by kernel_rfl) ?_
        simp only [Act.put]
        refine tame_no (k := 15) rfl (by kernel_rfl) (by kernel_rfl) (by kernel_rfl) (fun _ _ _ h => h) (by kernel_rfl) ?_
        simp only [Act.put]
        refine tame_no (k := 16) rfl (by kernel_rfl) (by kernel_rfl) (by kernel_rfl) (fun _ _ _ h => h) (by kernel_rfl) ?_
        simp only [Act.put]
        refine tame0 (k := 17) ?_ rfl (by kernel_rfl) (by kernel_rfl) (by kernel_rfl) (fun _ _ _ h => h) (by kernel_rfl) (fun v => ?_) ?_
        rotate_left
        · (go_simp; all_goals rfl)
        simp only [Act.put]
        refine tame_end (by kernel_rfl) ?_
        go_simp
        have R5 := R.below (Below.drew (Below.refl v.heap.size v))
        clear R SK2 hd2 hS2_0 fz f2
        go_wp2_with fail
        go_roundw
        case rel => exact ⟨k + 1, by omega, by omega, by go_num, by rw [HN.out]; exact R5⟩
        case measure => simp [intOf] <;> omega
    · obtain rfl : k = P.length := by omega
      rw [cgM_all] at R
      have HLL := Lib.hid (cgL_len (P := P) (W := W) (F := F) (a := a) (b := b))
      go_wp2
      go_ret
      exact ⟨_, _, rfl, R.o.mono (by omega), R.hb⟩

set_option maxRecDepth 20000 in
set_option maxHeartbeats 1000000 in
theorem specCg_c (A1 : Option Addr) (P : List Int) (c1 : Nat) (A2 : Option Addr) (W : List Int) (c2 : Nat) (A3 : Option Addr) (F : List Int) (c3 : Nat) (a b : Int) (w : World) (h : RdM w A1 P A2 W A3 F) :
    Calls Try.prog 13 #[mkV A1 P.length c1 A2 W.length c2 A3 F.length c3, .int .i64 a, .int .i64 b] w (GivesP w (cgV P W F a b) (ixB P W F a b)) := by
  have HB1 : Below w.heap.size w (w.alloc (.cells #[.slice A1 P.length c1, .slice A2 W.length c2, .slice A3 F.length c3] 28)) := (Below.refl _ _).alloc (Nat.le_refl _) _
  have bx := Bx3.new w (.slice A1 P.length c1) (.slice A2 W.length c2) (.slice A3 F.length c3) 28
  cases hq : (armB P W F && discB a b)
  · have HQ := Lib.hid (show ixB P W F a b = false from hq)
    rw [cgV_no HQ.out, HQ.out]
    go_enter Try.func13, Try.ntmps13
    go_wp2_with fail
    refine (l8One_is _ _ _ _ _ _ _ _ _ _ _ _ hq _ (h.below HB1 (Nat.le_refl _))).mono ?_
    rintro e w2 ⟨rfl, b2⟩
    have HB2 := bUp HB1 b2 HB1.size
    have O := (OwnP.lit0 w2).mono HB2.size
    go_wp2
    go_ret2
    exact ⟨_, _, rfl, O, HB2.alloc HB2.size _⟩
  · have hk := armAB_iff.1 hq
    have HQ := Lib.hid (show ixB P W F a b = true from hq)
    have HL := Lib.hid (cgL_len (P := P) (W := W) (F := F) (a := a) (b := b))
    rw [cgV_yes HQ.out, HQ.out]
    go_enter Try.func13, Try.ntmps13
    go_wp2_with fail
    refine (l8One_is _ _ _ _ _ _ _ _ _ _ _ _ hq _ (h.below HB1 (Nat.le_refl _))).mono ?_
    rintro e w2 ⟨rfl, b2⟩
    have HB2 := bUp HB1 b2 HB1.size
    obtain ⟨f0, f1, f2, fz⟩ := bx.below b2
    clear bx b2 HB1
    go_wp2_with fail
    refine (l8Charges_c A1 P c1 A2 W c2 A3 F c3 a b hk _ (h.below HB2 (Nat.le_refl _))).mono ?_
    rintro e w3 ⟨g, c, rfl, o, b3⟩
    go_wp2
    go_ret2
    exact ⟨_, _, by rw [HL.out] <;> rfl, o.mono HB2.size, bUp HB2 b3 HB2.size⟩
/-- The state while charges are gathered. -/
structure ChR (w wr : World) (x y z : Value) (gi ci ge ce : Nat) (ix : List (Int × Int)) (es : List Bool) (A : Option Addr) (c : Nat) (us : List (Int × Int)) : Prop where
  bx : Bx3 wr w.heap.size x y z
  ix : OwnP wr (w.heap.size + 1) (some ⟨gi, 0, none⟩) ci ix
  ed : OwnB wr (w.heap.size + 1) (some ⟨ge, 0, none⟩) ce es
  ot : OwnP wr (w.heap.size + 1) A c us
  ni : blk A ≠ some gi
  ne : blk A ≠ some ge
  hb : Below w.heap.size w wr
section
variable {w wr wr' : World} {x y z : Value} {gi ci ge ce c : Nat} {ix us : List (Int × Int)} {es : List Bool} {A : Option Addr}
theorem ChR.below (h : ChR w wr x y z gi ci ge ce ix es A c us) (b : Below wr.heap.size wr wr') : ChR w wr' x y z gi ci ge ce ix es A c us :=
  ⟨h.bx.below b, h.ix.below b, h.ed.below b, h.ot.below b, h.ni, h.ne, bUp h.hb b h.hb.size⟩
/-- Nothing but block g has turned, which is none of these. -/
theorem ChR.grown {g : Nat} (h : ChR w wr x y z gi ci ge ce ix es A c us) (hg : wr.grownBy wr' (some g)) (h1 : w.heap.size < g) (h2 : g ≠ gi) (h3 : g ≠ ge) (h4 : blk A ≠ some g) : ChR w wr' x y z gi ci ge ce ix es A c us :=
  ⟨h.bx.grown hg (by omega), h.ix.grown hg (.inr (by simp only [blk, Option.map_some, ne_eq, Option.some.injEq]; omega)), h.ed.grown hg (.inr (by simp only [blk, Option.map_some, ne_eq, Option.some.injEq]; omega)), h.ot.grown hg (.inr h4), h.ni, h.ne, h.hb.grown hg h.hb.size (fun k hk => by injection hk with hk; omega)⟩
theorem ChR.app {g2 c2 : Nat} {q : Int × Int} (h : ChR w wr x y z gi ci ge ce ix es A c us) (hg : wr.grownBy wr' (blk A)) (o : OwnP wr' (w.heap.size + 1) (some ⟨g2, 0, none⟩) c2 (us ++ [q])) (hb : some g2 = blk A ∨ g2 = wr.heap.size) : ChR w wr' x y z gi ci ge ce ix es (some ⟨g2, 0, none⟩) c2 (us ++ [q]) := by
  have li := (h.ix.ltk gi rfl)
  have le := (h.ed.ltk ge rfl).2
  have n1 : blk (some (⟨g2, 0, none⟩ : Addr)) ≠ some gi := by
    rcases hb with h1 | h1
    · show some g2 ≠ _
      rw [h1]; exact h.ni
    · simp only [blk, Option.map_some, ne_eq, Option.some.injEq]; omega
  have n2 : blk (some (⟨g2, 0, none⟩ : Addr)) ≠ some ge := by
    rcases hb with h1 | h1
    · show some g2 ≠ _
      rw [h1]; exact h.ne
    · simp only [blk, Option.map_some, ne_eq, Option.some.injEq]; omega
  exact ⟨h.bx.grownR hg (fun e => by have := h.ot.ge _ e; omega), h.ix.grown hg (.inr (fun e => h.ni e.symm)), h.ed.grown hg (.inr (fun e => h.ne e.symm)), o, n1, n2, h.hb.grown hg h.hb.size (fun k hk => by have := h.ot.ge k hk; omega)⟩
end
theorem lit_src (w : World) (p q : Int) : ∀ j u, (pcells [(p, q)])[j]? = some u → (w.alloc (.cells #[.int .i64 p, .int .i64 q] 31)).cell? ((⟨w.heap.size, 0, none⟩ : Addr).add j) = some u := by
  have := (OwnP.lit w [(p, q)] (by simp)).src
  simpa [pcells] using this
set_option maxRecDepth 20000 in
set_option maxHeartbeats 2000000 in
theorem implCg_c (A1 : Option Addr) (P : List Int) (c1 : Nat) (A2 : Option Addr) (W : List Int) (c2 : Nat) (A3 : Option Addr) (F : List Int) (c3 : Nat) (a b : Int) (w : World) (h : RdM w A1 P A2 W A3 F) :
    Calls Try.prog 12 #[mkV A1 P.length c1 A2 W.length c2 A3 F.length c3, .int .i64 a, .int .i64 b] w (GivesP w (cgV P W F a b) (ixB P W F a b)) := by
  have HB1 : Below w.heap.size w (w.alloc (.cells #[.slice A1 P.length c1, .slice A2 W.length c2, .slice A3 F.length c3] 28)) := (Below.refl _ _).alloc (Nat.le_refl _) _
  have bx := Bx3.new w (.slice A1 P.length c1) (.slice A2 W.length c2) (.slice A3 F.length c3) 28
  cases hq : ixB P W F a b
  · have HQ := Lib.hid hq
    have HV := Lib.hid (ixV_no hq)
    rw [cgV_no HQ.out]
    clear hq
    go_enter Try.func12, Try.ntmps12
    go_wp2_with fail
    refine (implIx_c A1 P c1 A2 W c2 A3 F c3 a b _ (h.below HB1 (Nat.le_refl _))).mono ?_
    rintro e w2 ⟨Ai, ci, rfl, oi, b2⟩
    rw [HQ.out]
    go_wp2
    go_ret2
    exact ⟨none, 0, rfl, OwnP.nil _ _, bUp HB1 b2 HB1.size⟩
  have hk := armAB_iff.1 (show (armB P W F && discB a b) = true from hq)
  have HQ := Lib.hid hq
  have HV := Lib.hid (ixV_yes hq)
  have hok := hk.arm
  have hn1 := hok.tree.n1
  have hn2 := hok.tree.n2
  have hn9 := hok.n9
  have hpar := hok.tree.par
  have HFR := Lib.hid (fun z (hz : z < P.length) => frP_iff.1 (idx_fr hk hz))
  rw [cgV_yes HQ.out]
  clear hq
  have HIL := Lib.hid (ixL_len (P := P) (W := W) (F := F) (a := a) (b := b))
  go_enter Try.func12, Try.ntmps12
  go_wp2_with fail
  refine (implIx_c A1 P c1 A2 W c2 A3 F c3 a b _ (h.below HB1 (Nat.le_refl _))).mono ?_
  rintro e w2 ⟨Ai, ci, rfl, oi, b2⟩
  rw [HV.out] at oi
  rw [HV.out, HIL.out, HQ.out]
  obtain ⟨gi, rfl, hgi1, hgi2⟩ := oi.form (by rw [HIL.out]; omega)
  have bx2 := bx.below b2
  have HB2 := bUp HB1 b2 HB1.size
  have sz2 : w.heap.size + 1 ≤ w2.heap.size := bx2.2.2.2
  have oi2 : OwnP w2 (w.heap.size + 1) (some ⟨gi, 0, none⟩) ci (ixL P W F a b) := oi.mono (by simp)
  have OO := OwnP.lit0 w2
  have oi3 := oi2.alloc (.cells #[] 31)
  have bx3 := bx2.alloc (.cells #[] 31)
  have HB3 := HB2.alloc HB2.size (.cells #[] 31)
  obtain ⟨f0, f1, f2, fz⟩ := id bx2
  clear bx b2 HB1 oi
  go_wp2_with fail
  refine (isEnd_c A1 P c1 A2 W.length c2 _ (h.below HB3 (Nat.le_refl _)).r1 hpar hn1 hn2).mono ?_
  rintro e w4 ⟨ge, ce, rfl, oe, b4⟩
  have hge := (oe.ltk ge rfl).1
  simp only [World.size_alloc] at hge
  have R0 := ChR.mk (w := w) (bx3.below b4) (oi3.below b4) (oe.mono (by simp; omega)) ((OO.mono sz2).below b4) (by simp only [blk, Option.map_some, ne_eq, Option.some.injEq]; omega) (by simp only [blk, Option.map_some, ne_eq, Option.some.injEq]; omega) (bUp HB3 b4 HB3.size)
  clear f0 f1 f2 fz oi2 oi3 OO bx2 bx3 HB2 HB3 b4 oe hge hgi1 hgi2 sz2
  go_wp2
  go_loopw [10, 31] (fun t i wr => ∃ (k : Nat) (A : Option Addr) (c : Nat), k ≤ P.length ∧ i = .int .i64 (k : Int) ∧ t = .slice A k c ∧ ChR w wr (.slice A1 P.length c1) (.slice A2 W.length c2) (.slice A3 F.length c3) gi ci ge ce (ixL P W F a b) (endsB P) A c (cgU P W F a b k)) (fun _ i _ => P.length - (intOf i).toNat)
  case atStart => exact ⟨0, _, _, Nat.zero_le _, rfl, rfl, R0⟩
  case round =>
    clear R0
    obtain ⟨k, A, c, hkl, rfl, rfl, R⟩ := hrel
    obtain ⟨wo, rfl⟩ : ∃ wo : World, wo = wr := ⟨_, rfl⟩
    have HUL := Lib.hid (cgU_len (P := P) (W := W) (F := F) (a := a) (b := b) k)
    by_cases hlt : k < P.length
    · obtain ⟨f0, f1, f2, fz⟩ := id R.bx
      have ce0 := R.ed.cell (k := k) (by rw [endsB_length]; exact hlt)
      rw [endsB_nth hlt] at ce0
      have HS := Lib.hid (cgU_succ (P := P) (W := W) (F := F) (a := a) (b := b) k)
      have j0 : (0 : Int) ≤ (k : Int) := by omega
      have j1 : (k : Int) < (P.length : Int) := by omega
      cases he : endB P k
      · rw [he] at ce0
        have HE := Lib.hid he
        clear he
        obtain ⟨d0, d1⟩ := R.ix.cells (k := k) (by rw [HIL.out]; exact hlt)
        change wo.cell? ⟨gi, k * 2, none⟩ = some (.int .i64 (nP (ixL P W F a b) k).1) at d0
        change wo.cell? ⟨gi, k * 2 + 1, none⟩ = some (.int .i64 (nP (ixL P W F a b) k).2) at d1
        rw [ixL_nP hlt] at d0 d1
        have H5 : Below wo.heap.size wo (wo.alloc (.cells #[.int .i64 (idxP P W F a b k).1, .int .i64 (idxP P W F a b k).2] 31)) := (Below.refl _ _).alloc (Nat.le_refl _) _
        have R5 := R.below H5
        have bl := Bx.new wo (.int .i64 (idxP P W F a b k).1) (.int .i64 (idxP P W F a b k).2) 31
        have nl : blk A ≠ some wo.heap.size := fun e => by have := R.ot.ltk _ e; omega
        have gl1 := R.ix.ltk gi rfl
        have gl2 := (R.ed.ltk ge rfl).2
        go_wp2_with fail
        refine (way_c A1 P c1 A2 W.length c2 k _ (h.below R5.hb (Nat.le_refl _)).r1 hpar hlt hn2).mono ?_
        rintro e w6 ⟨Aw, cw, s, rfl, os, hms, hsl, b6⟩
        have R6 := R5.below b6
        have bl6 := bl.below b6
        have HMS := Lib.hid hms
        have hsk : ∀ j, j < s.length → ∃ u : Nat, nth s j = (u : Int) ∧ u < P.length := fun j hj => by
          have hm := List.getElem_mem hj
          rw [← nth_eq hj] at hm
          obtain ⟨u, h1, h2⟩ := (hms _).1 hm
          exact ⟨u, h2, by have := rch_le h1; omega⟩
        have HSK := Lib.hid hsk
        have szo : wo.heap.size < w6.heap.size := bl6.2.2.2.2
        have nw : blk Aw ≠ some wo.heap.size := fun e => by have := os.ge _ e; simp at this; omega
        have os6 : Own w6 (w.heap.size + 1) Aw cw s := os.mono (by simp; omega)
        clear R R5 H5 b6 bl d0 d1 f0 f1 f2 ce0 hms hsk os
        go_wp2
        go_loopw [51] (fun i wr => ∃ m : Nat, m ≤ s.length ∧ i = .int .i64 (m : Int) ∧ ChR w wr (.slice A1 P.length c1) (.slice A2 W.length c2) (.slice A3 F.length c3) gi ci ge ce (ixL P W F a b) (endsB P) A c (cgU P W F a b k) ∧ Bx wr wo.heap.size (.int .i64 (ltTo P W F a b k s m).1) (.int .i64 (ltTo P W F a b k s m).2) ∧ Own wr (w.heap.size + 1) Aw cw s) (fun i _ => s.length - (intOf i).toNat)
        case atStart => exact ⟨0, Nat.zero_le _, rfl, R6, bl6, os6⟩
        case round =>
          clear R6 bl6 os6
          obtain ⟨m, hml, rfl, R, bl, os⟩ := hrel
          obtain ⟨v, rfl⟩ : ∃ v : World, v = wr := ⟨_, rfl⟩
          by_cases hlm : m < s.length
          · obtain ⟨gw, rfl, _, _⟩ := os.form (by omega)
            have cs := os.cellN hlm
            obtain ⟨u, eu, hul⟩ := HSK.out m hlm
            rw [eu] at cs
            obtain ⟨d0, d1⟩ := R.ix.cells (k := u) (by rw [HIL.out]; exact hul)
            change v.cell? ⟨gi, u * 2, none⟩ = some (.int .i64 (nP (ixL P W F a b) u).1) at d0
            change v.cell? ⟨gi, u * 2 + 1, none⟩ = some (.int .i64 (nP (ixL P W F a b) u).2) at d1
            rw [ixL_nP hul] at d0 d1
            have u0 : (0 : Int) ≤ (u : Int) := by omega
            have u1 : (u : Int) < (P.length : Int) := by omega
            have fu := HFR.out u hul
            have fl := frP_iff.1 (lt_fr hk (x := k) (s := s) hlt (fun j hj => by obtain ⟨u', e', h'⟩ := HSK.out j hj; omega) hml)
            have HLT : Hid (ltTo P W F a b k s (m + 1) = if betP false (idxP P W F a b u) (ltTo P W F a b k s m) = true then idxP P W F a b u else ltTo P W F a b k s m) := Lib.hid (by rw [ltTo, eu, Int.toNat_natCast])
            obtain ⟨l0, l1, l2, l3, l4⟩ := id bl
            have gl := R.ix.ltk gi rfl
            clear eu
            go_upto_region 14 with fail
            have hd1 : Below v.heap.size v v.drew := Below.drew (Below.refl _ _)
            have SK1 : Hid (∀ w', Below v.heap.size v w' → w'.cell? ⟨gi, u * 2, none⟩ = some (.int .i64 (idxP P W F a b u).1) ∧ w'.cell? ⟨gi, u * 2 + 1, none⟩ = some (.int .i64 (idxP P W F a b u).2) ∧ w'.cell? ⟨wo.heap.size, 0, none⟩ = some (.int .i64 (ltTo P W F a b k s m).1) ∧ w'.cell? ⟨wo.heap.size, 1, none⟩ = some (.int .i64 (ltTo P W F a b k s m).2)) := Lib.hid fun w' HV => ⟨(HV.cell (p := ⟨gi, u * 2, none⟩) gl).trans d0, (HV.cell (p := ⟨gi, u * 2 + 1, none⟩) gl).trans d1, (HV.cell (p := ⟨wo.heap.size, 0, none⟩) l4).trans l0, (HV.cell (p := ⟨wo.heap.size, 1, none⟩) l4).trans l1⟩
            clear d0 d1 l0 l1 l2 l3 cs
            have hS1_0 := SK1.out _ hd1
            refine tamed_region (S := fun w' => w'.cell? ⟨gi, u * 2, none⟩ = some (.int .i64 (idxP P W F a b u).1) ∧ w'.cell? ⟨gi, u * 2 + 1, none⟩ = some (.int .i64 (idxP P W F a b u).2) ∧ w'.cell? ⟨wo.heap.size, 0, none⟩ = some (.int .i64 (ltTo P W F a b k s m).1) ∧ w'.cell? ⟨wo.heap.size, 1, none⟩ = some (.int .i64 (ltTo P W F a b k s m).2)) (fun _ => false) (by kernel_rfl) ?_
            refine tame0 (k := 0) ?_ rfl (by kernel_rfl) (by kernel_rfl) (by kernel_rfl) (fun _ _ _ h => h) (by kernel_rfl) (fun v => ?_) ?_
            rotate_left
            · (go_simp; all_goals rfl)
            simp only [Act.put, List.setIfInBounds_toArray]
            refine tame0 (k := 1) ?_ rfl (by kernel_rfl) (by kernel_rfl) (by kernel_rfl) (fun _ _ _ h => h) (by kernel_rfl) (fun v => ?_) ?_
            rotate_left
            · (go_simp; all_goals rfl)
            simp only [Act.put]
            refine tame0 (k := 2) ?_ rfl (by kernel_rfl) (by kernel_rfl) (by kernel_rfl) (fun _ _ _ h => h) (by kernel_rfl) (fun v => ?_) ?_
            rotate_left
            · (go_simp; all_goals rfl)
            simp only [Act.put]
            refine tame (k := 3) ?_ rfl (by kernel_rfl) (by kernel_rfl) (by kernel_rfl) (by kernel_rfl) (fun _ _ _ h => h) (by kernel_rfl) hS1_0 (fun v hv => ?_) ?_
            rotate_left
            · (obtain ⟨k1, k2, k3, k4⟩ := hv; go_simp; all_goals rfl)
            simp only [Act.put]
            refine tame (k := 4) ?_ rfl (by kernel_rfl) (by kernel_rfl) (by kernel_rfl) (by kernel_rfl) (fun _ _ _ h => h) (by kernel_rfl) hS1_0 (fun v hv => ?_) ?_
            rotate_left
            · (obtain ⟨k1, k2, k3, k4⟩ := hv; go_simp; all_goals rfl)
            simp only [Act.put]
            refine tame_one (k := 5) (by kernel_rfl) rfl (by kernel_rfl) ?_
            go_simp
            refine (compared_c _ _ _ _ (by omega) (by omega) (by omega) (by omega) _).mono ?_
            rintro e w8 ⟨rfl, b8⟩
            have hd1_1 := bUp hd1 b8 (Nat.le_refl _)
            have hS1_1 := Lib.hid (SK1.out _ hd1_1)
            refine ⟨by first | exact hS1_1 | exact Hid.out hS1_1, ?_⟩
            have HC : Hid ((cmpI ((idxP P W F a b u).1, (idxP P W F a b u).2) ((ltTo P W F a b k s m).1, (ltTo P W F a b k s m).2) < 0) = (betP false (idxP P W F a b u) (ltTo P W F a b k s m) = true)) := Lib.hid cmp_low
            generalize cmpI ((idxP P W F a b u).1, (idxP P W F a b u).2) ((ltTo P W F a b k s m).1, (ltTo P W F a b k s m).2) = q at *
            refine tame_one (k := 6) (by kernel_rfl) rfl (by kernel_rfl) ?_
            go_simp
            refine ⟨by first | exact hS1_1 | exact Hid.out hS1_1, ?_⟩
            refine tame_end (by kernel_rfl) ?_
            have H8 := (Below.drew (Below.refl v.heap.size v)).trans b8
            have R8 := R.below H8
            have bl8 := bl.below H8
            have os8 := os.below H8
            clear R bl os SK1 hd1 hd1_1 hS1_0 hS1_1 b8 H8 fu fl
            by_cases hb : betP false (idxP P W F a b u) (ltTo P W F a b k s m) = true
            · have hq : q < 0 := by have := HC.out; rw [this]; exact hb
              have HN : Hid (ltTo P W F a b k s (m + 1) = ((idxP P W F a b u).1, (idxP P W F a b u).2)) := Lib.hid (by rw [HLT.out, if_pos hb])
              clear hb HC
              obtain ⟨d0, d1⟩ := R8.ix.cells (k := u) (by rw [HIL.out]; exact hul)
              change w8.cell? ⟨gi, u * 2, none⟩ = some (.int .i64 (nP (ixL P W F a b) u).1) at d0
              change w8.cell? ⟨gi, u * 2 + 1, none⟩ = some (.int .i64 (nP (ixL P W F a b) u).2) at d1
              rw [ixL_nP hul] at d0 d1
              obtain ⟨l0, l1, l2, l3, l5⟩ := id bl8
              have bl9 := bx_put bl8 (.int .i64 (idxP P W F a b u).1) (.int .i64 (idxP P W F a b u).2)
              have hg : w8.grownBy ((w8.setCell ⟨wo.heap.size, 0, none⟩ (.int .i64 (idxP P W F a b u).1)).setCell ⟨wo.heap.size, 1, none⟩ (.int .i64 (idxP P W F a b u).2)) (some wo.heap.size) := (grown_setCell w8 ⟨wo.heap.size, 0, none⟩ _).trans (grown_setCell _ ⟨wo.heap.size, 1, none⟩ _)
              have R9 := R8.grown hg fz (by omega) (by omega) nl
              have os9 := os8.grown hg (.inr nw)
              clear R8 bl8 os8 hg
              go_wp2
              go_roundw
              case rel => exact ⟨m + 1, by omega, by go_num, R9, by rw [HN.out]; exact bl9, os9⟩
              case measure => simp [intOf] <;> omega
            · have hq : ¬ q < 0 := by have := HC.out; rw [this]; exact hb
              have HN : Hid (ltTo P W F a b k s (m + 1) = ltTo P W F a b k s m) := Lib.hid (by rw [HLT.out, if_neg hb])
              clear hb HC
              go_wp2
              go_roundw
              case rel => exact ⟨m + 1, by omega, by go_num, R8, by rw [HN.out]; exact bl8, os8⟩
              case measure => simp [intOf] <;> omega
          · obtain rfl : m = s.length := by omega
            have HCX : Hid (cgX P W F a b k = ((ltTo P W F a b k s s.length).1, (ltTo P W F a b k s s.length).2)) := Lib.hid (cg_lt hk hlt HE.out HMS.out).symm
            obtain ⟨l0, l1, l2, l3, l4⟩ := id bl
            have SRC := Lib.hid (lit_src v (ltTo P W F a b k s s.length).1 (ltTo P W F a b k s s.length).2)
            have szv : w.heap.size + 1 ≤ v.heap.size := R.bx.2.2.2
            have R9 := R.below ((Below.refl _ _).alloc (Nat.le_refl _) (.cells #[.int .i64 (ltTo P W F a b k s s.length).1, .int .i64 (ltTo P W F a b k s s.length).2] 31))
            clear R bl os
            go_wp2_with (at_builtin; refine wp_append_pairs _ rfl _ _ rfl (w.heap.size + 1) A k c (cgU P W F a b k) rfl HUL.out.symm R9.ot ⟨v.heap.size, 0, none⟩ 1 1 [((ltTo P W F a b k s s.length).1, (ltTo P W F a b k s s.length).2)] rfl rfl SRC.out (by have := HUL.out; simp; omega) (by simp; omega) (by simp) ?_; intro g2 c2 w10 o10 hg10 hb10)
            have R10 := R9.app hg10 o10 hb10
            go_roundw
            case rel => exact ⟨k + 1, some ⟨g2, 0, none⟩, c2, by omega, by go_num, rfl, by rw [HS.out, HCX.out]; exact R10⟩
            case measure => simp [intOf] <;> omega

      · rw [he] at ce0
        have HCX : Hid (cgX P W F a b k = (0, 1)) := Lib.hid ((cgX_end he).trans (idx_end he))
        clear he
        have SRC := Lib.hid (lit_src wo 0 1)
        have szv : w.heap.size + 1 ≤ wo.heap.size := fz
        have R9 := R.below ((Below.refl _ _).alloc (Nat.le_refl _) (.cells #[.int .i64 0, .int .i64 1] 31))
        clear R
        go_wp2_with (at_builtin; refine wp_append_pairs _ rfl _ _ rfl (w.heap.size + 1) A k c (cgU P W F a b k) rfl HUL.out.symm R9.ot ⟨wo.heap.size, 0, none⟩ 1 1 [(0, 1)] rfl rfl SRC.out (by have := HUL.out; simp; omega) (by simp; omega) (by simp) ?_; intro g2 c2 w10 o10 hg10 hb10)
        have R10 := R9.app hg10 o10 hb10
        go_roundw
        case rel => exact ⟨k + 1, some ⟨g2, 0, none⟩, c2, by omega, by go_num, rfl, by rw [HS.out, HCX.out]; exact R10⟩
        case measure => simp [intOf] <;> omega

    · obtain rfl : k = P.length := by omega
      have HLL := Lib.hid (cgL_len (P := P) (W := W) (F := F) (a := a) (b := b))
      have ot := R.ot
      rw [cgU_all] at ot
      go_wp2
      go_ret2
      exact ⟨_, _, by rw [HLL.out] <;> rfl, ot.mono (by omega), R.hb⟩

theorem add_nil0 (a : Addr) : a.add 0 = a := by simp [Addr.add]
set_option maxRecDepth 20000 in
set_option maxHeartbeats 1000000 in
theorem specFe_c (A1 : Option Addr) (P : List Int) (c1 : Nat) (A2 : Option Addr) (W : List Int) (c2 : Nat) (A3 : Option Addr) (F : List Int) (c3 : Nat) (a b fee : Int) (w : World) (h : RdM w A1 P A2 W A3 F) :
    Calls Try.prog 17 #[mkV A1 P.length c1 A2 W.length c2 A3 F.length c3, .int .i64 a, .int .i64 b, .int .i64 fee] w (Quietly w (.tuple #[.bool (fvV P W F a b fee), .bool (fvB P W F a b fee)])) := by
  have HB1 : Below w.heap.size w (w.alloc (.cells #[.slice A1 P.length c1, .slice A2 W.length c2, .slice A3 F.length c3] 28)) := (Below.refl _ _).alloc (Nat.le_refl _) _
  have bx := Bx3.new w (.slice A1 P.length c1) (.slice A2 W.length c2) (.slice A3 F.length c3) 28
  cases hq : (armB P W F && discB a b)
  · have HQ := Lib.hid (fvB_1 (fee := fee) hq)
    rw [fvV_no HQ.out, HQ.out]
    go_enter Try.func17, Try.ntmps17
    go_wp2_with fail
    refine (l8One_is _ _ _ _ _ _ _ _ _ _ _ _ hq _ (h.below HB1 (Nat.le_refl _))).mono ?_
    rintro e w2 ⟨rfl, b2⟩
    go_wp2
    go_ret2
    exact ⟨rfl, bUp HB1 b2 HB1.size⟩
  · cases hi : inB fee (-99) 99
    · have HQ := Lib.hid (fvB_2 (P := P) (W := W) (F := F) (a := a) (b := b) hi)
      rw [fvV_no HQ.out, HQ.out]
      go_enter Try.func17, Try.ntmps17
      go_wp2_with fail
      refine (l8One_is _ _ _ _ _ _ _ _ _ _ _ _ hq _ (h.below HB1 (Nat.le_refl _))).mono ?_
      rintro e w2 ⟨rfl, b2⟩
      go_wp2_with fail
      refine (l1In_is _ _ _ _ hi _).mono ?_
      rintro e w3 ⟨rfl, rfl⟩
      go_wp2
      go_ret2
      exact ⟨rfl, bUp HB1 b2 HB1.size⟩
    · have hk := armAB_iff.1 hq
      have hn1 := hk.arm.tree.n1
      have hwt := hk.arm.tree.wt 0 (by omega)
      have hwl := hk.arm.tree.len
      obtain ⟨a2, rfl, q0⟩ := h.r2.intN (k := 0) (by omega)
      rw [add_nil0] at q0
      have hf := inB_iff.1 hi
      cases he : endB P 0
      · have HQ := Lib.hid (fvB_y hq hi he)
        have HV := Lib.hid (fvV_y hq hi he)
        rw [HV.out, HQ.out]
        rw [he, if_neg (by simp)] at hwt
        have hw0 : ¬ 0 < nth W 0 := by omega
        have hl0 : 0 < W.length := by omega
        clear hwl hwt
        go_enter Try.func17, Try.ntmps17
        go_wp2_with fail
        refine (l8One_is _ _ _ _ _ _ _ _ _ _ _ _ hq _ (h.below HB1 (Nat.le_refl _))).mono ?_
        rintro e w2 ⟨rfl, b2⟩
        have HB2 := bUp HB1 b2 HB1.size
        have q2 := (HB2.cell (cell_lt q0)).trans q0
        obtain ⟨f0, f1, f2, fz⟩ := bx.below b2
        clear bx b2 HB1
        go_wp2_with fail
        refine (l1In_is _ _ _ _ hi _).mono ?_
        rintro e w3 ⟨rfl, rfl⟩
        go_wp2_with fail
        refine (l8Less_c A1 P c1 (some a2) W c2 A3 F c3 a b fee hk hf P.length 0 _ (by omega) (by omega) (h.below HB2 (Nat.le_refl _))).mono ?_
        rintro e w4 ⟨rfl, b4⟩
        go_wp2
        go_ret2
        exact ⟨rfl, bUp HB2 b4 HB2.size⟩
      · have HQ := Lib.hid (fvB_3 (W := W) (F := F) (a := a) (b := b) (fee := fee) he)
        rw [fvV_no HQ.out, HQ.out]
        rw [he, if_pos rfl] at hwt
        have hw0 : 0 < nth W 0 := by omega
        have hl0 : 0 < W.length := by omega
        clear hwl hwt
        go_enter Try.func17, Try.ntmps17
        go_wp2_with fail
        refine (l8One_is _ _ _ _ _ _ _ _ _ _ _ _ hq _ (h.below HB1 (Nat.le_refl _))).mono ?_
        rintro e w2 ⟨rfl, b2⟩
        have HB2 := bUp HB1 b2 HB1.size
        have q2 := (HB2.cell (cell_lt q0)).trans q0
        obtain ⟨f0, f1, f2, fz⟩ := bx.below b2
        clear bx b2 HB1
        go_wp2_with fail
        refine (l1In_is _ _ _ _ hi _).mono ?_
        rintro e w3 ⟨rfl, rfl⟩
        go_wp2
        go_ret2
        exact ⟨rfl, HB2⟩
theorem cmp_ge {f g : Int × Int} : (0 ≤ cmpI f g) = (g.1 * f.2 ≤ f.1 * g.2) := by
  unfold cmpI
  apply propext
  split
  · omega
  · split <;> omega
set_option maxRecDepth 20000 in
set_option maxHeartbeats 1000000 in
theorem implFe_c (A1 : Option Addr) (P : List Int) (c1 : Nat) (A2 : Option Addr) (W : List Int) (c2 : Nat) (A3 : Option Addr) (F : List Int) (c3 : Nat) (a b fee : Int) (w : World) (h : RdM w A1 P A2 W A3 F) :
    Calls Try.prog 16 #[mkV A1 P.length c1 A2 W.length c2 A3 F.length c3, .int .i64 a, .int .i64 b, .int .i64 fee] w (Quietly w (.tuple #[.bool (fvV P W F a b fee), .bool (fvB P W F a b fee)])) := by
  have HB1 : Below w.heap.size w (w.alloc (.cells #[.slice A1 P.length c1, .slice A2 W.length c2, .slice A3 F.length c3] 28)) := (Below.refl _ _).alloc (Nat.le_refl _) _
  have bx := Bx3.new w (.slice A1 P.length c1) (.slice A2 W.length c2) (.slice A3 F.length c3) 28
  cases ha : armB P W F
  · have HQ := Lib.hid (fvB_1 (P := P) (W := W) (F := F) (a := a) (b := b) (fee := fee) (by rw [ha]; rfl))
    rw [fvV_no HQ.out, HQ.out]
    go_enter Try.func16, Try.ntmps16
    go_wp2_with fail
    refine (implArm_is _ _ _ _ _ _ _ _ _ _ ha _ (h.below HB1 (Nat.le_refl _))).mono ?_
    rintro e w2 ⟨rfl, b2⟩
    go_wp2
    go_ret2
    exact ⟨rfl, bUp HB1 b2 HB1.size⟩
  cases hd : discB a b
  · have HQ := Lib.hid (fvB_1 (P := P) (W := W) (F := F) (a := a) (b := b) (fee := fee) (by rw [hd]; simp))
    rw [fvV_no HQ.out, HQ.out]
    go_enter Try.func16, Try.ntmps16
    go_wp2_with fail
    refine (implArm_is _ _ _ _ _ _ _ _ _ _ ha _ (h.below HB1 (Nat.le_refl _))).mono ?_
    rintro e w2 ⟨rfl, b2⟩
    go_wp2_with fail
    refine (isDiscount_is _ _ _ hd _).mono ?_
    rintro e w3 ⟨rfl, rfl⟩
    go_wp2
    go_ret2
    exact ⟨rfl, bUp HB1 b2 HB1.size⟩
  have hq : (armB P W F && discB a b) = true := by rw [ha, hd]; rfl
  cases hi : inB fee (-99) 99
  · have HQ := Lib.hid (fvB_2 (P := P) (W := W) (F := F) (a := a) (b := b) hi)
    rw [fvV_no HQ.out, HQ.out]
    go_enter Try.func16, Try.ntmps16
    go_wp2_with fail
    refine (implArm_is _ _ _ _ _ _ _ _ _ _ ha _ (h.below HB1 (Nat.le_refl _))).mono ?_
    rintro e w2 ⟨rfl, b2⟩
    go_wp2_with fail
    refine (isDiscount_is _ _ _ hd _).mono ?_
    rintro e w3 ⟨rfl, rfl⟩
    go_wp2_with fail
    refine (within_is _ _ _ _ hi _).mono ?_
    rintro e w3 ⟨rfl, rfl⟩
    go_wp2
    go_ret2
    exact ⟨rfl, bUp HB1 b2 HB1.size⟩
  have hk := armAB_iff.1 hq
  have hn1 := hk.arm.tree.n1
  have hf := inB_iff.1 hi
  have h0 := end0 hk.arm
  cases he : endB P 0
  · have HQ := Lib.hid (fvB_y hq hi he)
    have HV := Lib.hid ((fvV_y hq hi he).trans (fair_iff hk he fee))
    rw [HV.out, HQ.out]
    have hl1 : ((F.length : Int) == 1) = false := by
      rw [he] at h0
      have := of_decide_eq_false h0.symm
      simp; omega
    have hfr := frP_iff.1 (idx_fr hk (x := 0) (by omega))
    clear h0 hq
    go_enter Try.func16, Try.ntmps16
    go_wp2_with fail
    refine (implArm_is _ _ _ _ _ _ _ _ _ _ ha _ (h.below HB1 (Nat.le_refl _))).mono ?_
    rintro e w2 ⟨rfl, b2⟩
    go_wp2_with fail
    refine (isDiscount_is _ _ _ hd _).mono ?_
    rintro e w3 ⟨rfl, rfl⟩
    have HB2 := bUp HB1 b2 HB1.size
    obtain ⟨f0, f1, f2, fz⟩ := bx.below b2
    clear bx b2 HB1
    go_wp2_with fail
    refine (within_is _ _ _ _ hi _).mono ?_
    rintro e w3 ⟨rfl, rfl⟩
    go_wp2_with fail
    refine (index_c A1 P c1 A2 W c2 A3 F c3 a b 0 _ (h.below HB2 (Nat.le_refl _)) hk (by omega)).mono ?_
    rintro e w4 ⟨rfl, b4⟩
    go_wp2_with fail
    refine (compared_c _ _ fee 1 (by omega) (by omega) (by omega) (by omega) _).mono ?_
    rintro e w5 ⟨rfl, b5⟩
    have hc := cmp_ge (f := ((idxP P W F a b 0).1, (idxP P W F a b 0).2)) (g := (fee, 1))
    have HC : Hid (decide (0 ≤ cmpI ((idxP P W F a b 0).1, (idxP P W F a b 0).2) (fee, 1)) = decide (fee * (idxP P W F a b 0).2 ≤ (idxP P W F a b 0).1 * 1)) := Lib.hid (decide_eq_decide.2 (iff_of_eq hc))
    generalize cmpI ((idxP P W F a b 0).1, (idxP P W F a b 0).2) (fee, 1) = q at *
    clear hc
    have HB5 := bUp (bUp HB2 b4 HB2.size) b5 (Nat.le_trans HB2.size b4.size)
    go_wp2
    go_ret2
    exact ⟨by rw [← HC.out] <;> rfl, HB5⟩
  · have HQ := Lib.hid (fvB_3 (W := W) (F := F) (a := a) (b := b) (fee := fee) he)
    rw [fvV_no HQ.out, HQ.out]
    have hl1 : ((F.length : Int) == 1) = true := by
      rw [he] at h0
      have := of_decide_eq_true h0.symm
      simp; omega
    clear h0 hq
    go_enter Try.func16, Try.ntmps16
    go_wp2_with fail
    refine (implArm_is _ _ _ _ _ _ _ _ _ _ ha _ (h.below HB1 (Nat.le_refl _))).mono ?_
    rintro e w2 ⟨rfl, b2⟩
    go_wp2_with fail
    refine (isDiscount_is _ _ _ hd _).mono ?_
    rintro e w3 ⟨rfl, rfl⟩
    have HB2 := bUp HB1 b2 HB1.size
    obtain ⟨f0, f1, f2, fz⟩ := bx.below b2
    clear bx b2 HB1
    go_wp2_with fail
    refine (within_is _ _ _ _ hi _).mono ?_
    rintro e w3 ⟨rfl, rfl⟩
    go_wp2
    go_ret2
    exact ⟨rfl, HB2⟩

end Go.Proofs.Ytfobjkdkjlbkfaa
