/- Indices of an arm's nodes, plainly: the best quotient over all sets, and the reference's road to it. No program stands here. -/
import Derived.Test.YtdhagkckkdaenaaPlL
namespace Go.Proofs.Ytdhagkckkdaenaa

section
variable {P W F : List Int} {a b : Int}
/-- What a set's gain by its time comes to. -/
def prS (P W F : List Int) (a b : Int) (x : Nat) (s : List Int) : Int × Int := (cutT (gnA P W F a b x s) (tmA P W a b x s), cutB (gnA P W F a b x s) (tmA P W a b x s))
def prI (P W F : List Int) (a b : Int) (i : Nat → Bool) (x : Nat) : Int × Int := (cutT (gnR P W F a b i x) (tmR P W a b i x), cutB (gnR P W F a b i x) (tmR P W a b i x))
/-- The arm, a and b are right. -/
structure ArmAB (P W F : List Int) (a b : Int) : Prop where
  arm : ArmOk P W F
  a1 : 1 ≤ a
  ab : a < b
  b4 : b ≤ 4
theorem armAB_iff : (armB P W F && discB a b) = true ↔ ArmAB P W F a b := by
  simp only [discB, Bool.and_eq_true, decide_eq_true_eq, armB_iff]
  constructor
  · rintro ⟨h1, ⟨h2, h3⟩, h4⟩; exact ⟨h1, h2, h3, h4⟩
  · rintro ⟨h1, h2, h3, h4⟩; exact ⟨h1, ⟨h2, h3⟩, h4⟩
theorem prS_rL (h : ArmAB P W F a b) {x : Nat} (hx : x < P.length) (i : Nat → Bool) : prS P W F a b x (rL P i x P.length) = prI P W F a b i x := by
  have h1 := tmR_pos h.arm h.a1 (b := b) (by have := h.a1; have := h.ab; omega) hx i
  have h2 := kP_pos (P := P) (b := b) (by have := h.a1; have := h.ab; omega) x
  have h3 := Int.mul_le_mul h2 h1 (by decide) (by omega)
  have := cut_congr (a := gnA P W F a b x (rL P i x P.length)) (b := tmA P W a b x (rL P i x P.length)) (c := gnR P W F a b i x) (d := tmR P W a b i x) (by rw [tmA_eq h.arm hx]; omega) (by omega) (by
    rw [gnA_eq h.arm hx, tmA_eq h.arm hx]
    grind)
  exact Prod.ext this.1 this.2
theorem rL_len (i : Nat → Bool) (x : Nat) : ∀ k, (rL P i x k).length ≤ k
  | 0 => Nat.le_refl _
  | k + 1 => by
    have := rL_len i x k
    rcases Bool.eq_false_or_eq_true (rch P i x k) with hr | hr
    · rw [rL_yes hr, List.length_append]; simp; omega
    · rw [rL_no hr]; omega
theorem rL_at (i : Nat → Bool) (x k j : Nat) (hj : j < (rL P i x k).length) : ∃ y : Nat, nth (rL P i x k) j = (y : Int) ∧ y < k ∧ rch P i x y = true := by
  have := List.getElem_mem hj
  rw [← nth_eq hj] at this
  obtain ⟨y, h1, h2, h3⟩ := mem_rL.1 this
  exact ⟨y, h3, h1, h2⟩
theorem rL_in (i : Nat → Bool) (x k j : Nat) (hj : j < (rL P i x k).length) : (nth (rL P i x k) j).toNat < k := by
  obtain ⟨y, h1, h2, _⟩ := rL_at i x k j hj
  rw [h1]
  omega
/-- The pair in lowest terms is a fraction. -/
theorem prI_fr (h : ArmAB P W F a b) {x : Nat} (hx : x < P.length) (i : Nat → Bool) : frP (prI P W F a b i x) = true := by
  rw [← prS_rL h hx i]
  have hl := rL_len (P := P) i x P.length
  have h9 := h.arm.n9
  have hg := gnT_bd h.arm h.a1 h.ab h.b4 (x := x) (s := rL P i x P.length) (rL_in i x P.length) _ (Nat.le_refl _)
  have ht := tmT_bd h.arm h.a1 h.ab h.b4 (x := x) (s := rL P i x P.length) (rL_in i x P.length) _ (Nat.le_refl _)
  have h1 := tmR_pos h.arm h.a1 (b := b) (by have := h.a1; have := h.ab; omega) hx i
  have h2 := kP_pos (P := P) (b := b) (by have := h.a1; have := h.ab; omega) x
  have h3 := Int.mul_le_mul h2 h1 (by decide) (by omega)
  have hp : 0 < tmA P W a b x (rL P i x P.length) := by rw [tmA_eq h.arm hx]; omega
  have hT := cutT_bd (a := gnA P W F a b x (rL P i x P.length)) hp (M := 1000000000) (by unfold gnA; omega) (by unfold gnA; omega)
  have hB := cutB_le (a := gnA P W F a b x (rL P i x P.length)) hp
  have hB1 := cutB_pos (a := gnA P W F a b x (rL P i x P.length)) hp
  refine frP_iff.2 ⟨hT, ⟨by show (1 : Int) ≤ cutB _ _; omega, ?_⟩, gI_cut hp⟩
  show cutB _ _ ≤ 1000000
  have : tmA P W a b x (rL P i x P.length) ≤ 46080 * ((rL P i x P.length).length : Int) := ht.2
  omega
theorem fr_pos {f : Int × Int} (h : frP f = true) : 0 < f.2 := by have := (frP_iff.1 h).2.1; omega
/-- No end. -/
def neB (P : List Int) (z : Nat) : Bool := !endB P z
theorem neB_iff {z : Nat} : neB P z = true ↔ endB P z = false := by simp [neB]
/-- The index of a node. -/
def idxL (P W F : List Int) (a b : Int) (x : Nat) : List (Int × Int) := (sts P x).map (prS P W F a b x)
def idxP (P W F : List Int) (a b : Int) (x : Nat) : Int × Int := if endB P x then (0, 1) else topOf true (idxL P W F a b x)
theorem idx_mem (h : ArmAB P W F a b) {x : Nat} (hx : x < P.length) (he : endB P x = false) : ∃ i : Nat → Bool, (∀ z, i z = true → neB P z = true) ∧ idxP P W F a b x = prI P W F a b i x := by
  rw [idxP, he, if_neg (by simp)]
  have hm := topOf_mem (up := true) (l := idxL P W F a b x) (by rw [idxL, List.length_map]; exact sts_pos he)
  obtain ⟨s, hs, e⟩ := List.mem_map.1 hm
  obtain ⟨i, hi, rfl⟩ := (mem_sts h.arm.tree.par hx he s).1 hs
  exact ⟨i, fun z hz => neB_iff.2 (hi z hz), by rw [← e, prS_rL h hx]⟩
theorem idxL_fr (h : ArmAB P W F a b) {x : Nat} (hx : x < P.length) (he : endB P x = false) : ∀ f ∈ idxL P W F a b x, frP f = true := by
  intro f hf
  obtain ⟨s, hs, rfl⟩ := List.mem_map.1 hf
  obtain ⟨i, hi, rfl⟩ := (mem_sts h.arm.tree.par hx he s).1 hs
  rw [prS_rL h hx]
  exact prI_fr h hx i
theorem idx_max (h : ArmAB P W F a b) {x : Nat} (hx : x < P.length) (he : endB P x = false) {i : Nat → Bool} (hi : ∀ z, i z = true → neB P z = true) : lessP (idxP P W F a b x) (prI P W F a b i x) = false := by
  have hm : prI P W F a b i x ∈ idxL P W F a b x := List.mem_map.2 ⟨_, (mem_sts h.arm.tree.par hx he _).2 ⟨i, fun z hz => neB_iff.1 (hi z hz), rfl⟩, prS_rL h hx i⟩
  have := topOf_max (up := true) (fun f hf => fr_pos (idxL_fr h hx he f hf)) hm
  rw [idxP, he, if_neg (by simp)]
  exact this
theorem idx_fr (h : ArmAB P W F a b) {x : Nat} (hx : x < P.length) : frP (idxP P W F a b x) = true := by
  cases he : endB P x
  · obtain ⟨i, _, e⟩ := idx_mem h hx he
    rw [e]
    exact prI_fr h hx i
  · rw [idxP, he, if_pos rfl]
    decide
/-- The greatest gain less p by q for each unit of time. -/
def lsP (P W F : List Int) (a b p q : Int) (x : Nat) : Int := lsV P a (neB P) (fun y => (q * nth F y - p) * unitX P W b y) P.length x
theorem tot_lin (i : Nat → Bool) (p q : Int) (x : Nat) : tot P a i (fun y => (q * nth F y - p) * unitX P W b y) x = q * gnR P W F a b i x - p * tmR P W a b i x := by
  have e : tot P a i (fun y => (q * nth F y - p) * unitX P W b y) x = q * gnR P W F a b i x + (-p) * tmR P W a b i x := by
    unfold gnR tmR tot
    rw [← sN_mul, ← sN_mul, ← sN_add]
    refine sN_congr fun y hy => ?_
    by_cases hr : rch P i x y = true
    · simp only [if_pos hr]; grind
    · simp only [if_neg hr]; omega
  rw [e]
  grind
theorem less_no {f g : Int × Int} : lessP f g = false ↔ g.1 * f.2 ≤ f.1 * g.2 := by
  simp [lessP]
/-- A quotient's threshold, told by gain and time. -/
theorem prI_ge (h : ArmAB P W F a b) {x : Nat} (hx : x < P.length) (i : Nat → Bool) {p q : Int} : p * (prI P W F a b i x).2 ≤ (prI P W F a b i x).1 * q ↔ 0 ≤ q * gnR P W F a b i x - p * tmR P W a b i x := by
  have h1 := tmR_pos h.arm h.a1 (b := b) (by have := h.a1; have := h.ab; omega) hx i
  have hm := cut_mul (gnR P W F a b i x) (tmR P W a b i x)
  have hg := gI_pos (a := gnR P W F a b i x) (b := tmR P W a b i x) (by omega)
  show p * cutB _ _ ≤ cutT _ _ * q ↔ _
  generalize cutT (gnR P W F a b i x) (tmR P W a b i x) = t at *
  generalize cutB (gnR P W F a b i x) (tmR P W a b i x) = u at *
  generalize gI (gnR P W F a b i x) (tmR P W a b i x) = g at *
  rw [← hm.1, ← hm.2]
  have e : q * (t * g) - p * (u * g) = (t * q - p * u) * g := by grind
  rw [e]
  constructor
  · intro h'
    exact Int.mul_nonneg (by omega) (by omega)
  · intro h'
    rcases Int.lt_or_le (t * q - p * u) 0 with hn | hn
    · have := Int.mul_neg_of_neg_of_pos hn hg
      omega
    · omega
theorem lsP_star (h : ArmAB P W F a b) {x : Nat} (hx : x < P.length) (p q : Int) : lsP P W F a b p q x = q * gnR P W F a b (fun z => neB P z && decide (0 ≤ lsP P W F a b p q z)) x - p * tmR P W a b (fun z => neB P z && decide (0 ≤ lsP P W F a b p q z)) x := by
  rw [← tot_lin, ← gnV_tot h.arm.tree.par a _ _ P.length x hx (by omega)]
  exact (gnV_eq _ P.length _ h.arm.tree.par (fun z _ => rfl) (fun n z hz hn => lsV_fuel h.arm.tree.par n P.length z hz hn (by omega)) P.length x hx (by omega)).symm
theorem lsP_ge (h : ArmAB P W F a b) {x : Nat} (hx : x < P.length) (p q : Int) {i : Nat → Bool} (hi : ∀ z, i z = true → neB P z = true) : q * gnR P W F a b i x - p * tmR P W a b i x ≤ lsP P W F a b p q x := by
  rw [← tot_lin, ← gnV_tot h.arm.tree.par a _ _ P.length x hx (by omega)]
  exact gnV_le (by have := h.a1; omega) hi _ _ _
/-- An index is at least a quotient just if there is a set that gains no less. -/
theorem lsP_iff (h : ArmAB P W F a b) {x : Nat} (hx : x < P.length) (he : endB P x = false) {p q : Int} (hq : 0 < q) : 0 ≤ lsP P W F a b p q x ↔ p * (idxP P W F a b x).2 ≤ (idxP P W F a b x).1 * q := by
  constructor
  · intro h0
    have h1 := lsP_star h hx p q
    have h2 := (prI_ge h hx (fun z => neB P z && decide (0 ≤ lsP P W F a b p q z)) (p := p) (q := q)).2 (by omega)
    have h3 := less_no.1 (idx_max h hx he (i := fun z => neB P z && decide (0 ≤ lsP P W F a b p q z)) fun z hz => by simp only [Bool.and_eq_true] at hz; exact hz.1)
    have f1 := fr_pos (prI_fr h hx (fun z => neB P z && decide (0 ≤ lsP P W F a b p q z)))
    have f2 := fr_pos (idx_fr h hx)
    exact le_trans3 f1 (by omega) (by omega) h2 h3
  · intro h0
    obtain ⟨i, hi, e⟩ := idx_mem h hx he
    rw [e] at h0
    have := (prI_ge h hx i).1 h0
    have := lsP_ge h hx p q hi
    omega
/-- A node is below another one, or it. -/
def undB (P : List Int) (x y : Nat) : Bool := rch P (fun _ => true) x y
theorem rch_und (hp : ParOk P) {i : Nat → Bool} {x y : Nat} (hy : y < P.length) (hr : rch P i x y = true) : undB P x y = true := by
  induction y using Nat.strongRecOn with
  | _ y ih =>
    rcases Nat.eq_or_lt_of_le (rch_le hr) with rfl | h1
    · exact rch_self
    · obtain ⟨q, hq, hlt⟩ := par_of hp h1 hy
      rw [rch_step hq hlt h1, Bool.and_eq_true] at hr
      unfold undB
      rw [rch_step hq hlt h1]
      exact ih q hlt (by omega) hr.2
/-- The reference's set: nodes of no less an index than y's. -/
def inY (P : List Int) (f : Nat → Int × Int) (x y z : Nat) : Bool := decide (x < z) && (neB P z && !lessP (f z) (f y))
/-- The reference's quotients at a node. -/
def rfTo (P W F : List Int) (a b : Int) (f : Nat → Int × Int) (x k : Nat) : List (Int × Int) :=
  (nth F x, 1) :: ((List.range k).filter fun y => decide (x < y) && (undB P x y && neB P y)).map fun y => prI P W F a b (inY P f x y) x
def rfL (P W F : List Int) (a b : Int) (f : Nat → Int × Int) (x : Nat) : List (Int × Int) := rfTo P W F a b f x P.length
theorem gnR_none {x : Nat} (_hp : ParOk P) (hx : x < P.length) {i : Nat → Bool} (hi : ∀ y, y < P.length → rch P i x y = true → y = x) (v : Nat → Int) : tot P a i v x = v x := by
  unfold tot
  rw [sN_one hx]
  · rw [if_pos rch_self, Nat.sub_self]
    show 1 * v x = v x
    omega
  · intro y hy hne
    exact if_neg fun hr => hne (hi y hy hr)
theorem prI_none (h : ArmAB P W F a b) {x : Nat} (hx : x < P.length) {i : Nat → Bool} (hi : ∀ y, y < P.length → rch P i x y = true → y = x) : prI P W F a b i x = (nth F x, 1) := by
  have hu := unitX_pos h.arm (b := b) (by have := h.a1; have := h.ab; omega) hx
  have e1 : gnR P W F a b i x = nth F x * unitX P W b x := gnR_none h.arm.tree.par hx hi _
  have e2 : tmR P W a b i x = unitX P W b x := gnR_none h.arm.tree.par hx hi _
  have := cut_congr (a := nth F x * unitX P W b x) (b := unitX P W b x) (c := nth F x) (d := 1) (by omega) (by decide) (by omega)
  have h1 := cut_one (nth F x)
  unfold prI
  rw [e1, e2]
  exact Prod.ext (this.1.trans h1.1) (this.2.trans h1.2)
theorem rch_false {x y : Nat} (_hp : ParOk P) (_hy : y < P.length) (hr : rch P (fun _ => false) x y = true) : y = x := by
  rcases Decidable.em (y = x) with h | h
  · exact h
  · have := rch_in hr h
    cases this
theorem prI_congr (_hp : ParOk P) {i i' : Nat → Bool} {x : Nat} (hr : ∀ y, y < P.length → rch P i x y = rch P i' x y) : prI P W F a b i x = prI P W F a b i' x := by
  have e : ∀ v, tot P a i v x = tot P a i' v x := fun v => by
    unfold tot
    exact sN_congr fun y hy => by rw [hr y hy]
  unfold prI gnR tmR
  rw [e, e]
theorem rf_mem (h : ArmAB P W F a b) {x : Nat} (hx : x < P.length) {f : Nat → Int × Int} {g : Int × Int} (hg : g ∈ rfL P W F a b f x) : ∃ i : Nat → Bool, (∀ z, i z = true → neB P z = true) ∧ g = prI P W F a b i x := by
  rw [rfL, rfTo, List.mem_cons] at hg
  rcases hg with rfl | hg
  · exact ⟨fun _ => false, (fun _ hz => absurd hz (by simp)), (prI_none h hx fun y hy hr => rch_false h.arm.tree.par hy hr).symm⟩
  · obtain ⟨y, _, rfl⟩ := List.mem_map.1 hg
    exact ⟨inY P f x y, fun z hz => by simp only [inY, Bool.and_eq_true] at hz; exact hz.2.1, rfl⟩
theorem rf_fr (h : ArmAB P W F a b) {x : Nat} (hx : x < P.length) {f : Nat → Int × Int} : ∀ g ∈ rfL P W F a b f x, frP g = true := by
  intro g hg
  obtain ⟨i, _, rfl⟩ := rf_mem h hx hg
  exact prI_fr h hx i
theorem rf_pos (f : Nat → Int × Int) (x : Nat) : 0 < (rfL P W F a b f x).length := by rw [rfL, rfTo]; simp
/-- The reference finds the index. -/
theorem rf_idx (h : ArmAB P W F a b) {x : Nat} (hx : x < P.length) (he : endB P x = false) {f : Nat → Int × Int} (hf : ∀ z, x < z → z < P.length → endB P z = false → f z = idxP P W F a b z) :
    topOf true (rfL P W F a b f x) = idxP P W F a b x := by
  have hp := h.arm.tree.par
  have hfr := idx_fr h hx
  obtain ⟨i0, hi0, e0⟩ := rf_mem h hx (topOf_mem (up := true) (rf_pos (P := P) (W := W) (F := F) (a := a) (b := b) f x))
  have hle : lessP (idxP P W F a b x) (topOf true (rfL P W F a b f x)) = false := by rw [e0]; exact idx_max h hx he hi0
  refine fr_eq (rf_fr h hx _ (topOf_mem (rf_pos f x))) hfr ?_
  refine bet_eq (up := false) ?_ ?_
  · show lessP (topOf true (rfL P W F a b f x)) (idxP P W F a b x) = false
    -- the set of all nodes whose index is no less
    have hq := fr_pos hfr
    generalize hpq : idxP P W F a b x = g at *
    have hls : 0 ≤ lsP P W F a b g.1 g.2 x := (lsP_iff h hx he hq).2 (by rw [hpq]; exact Int.le_refl _)
    have hst := lsP_star h hx g.1 g.2
    have hge := (prI_ge h hx (fun z => neB P z && decide (0 ≤ lsP P W F a b g.1 g.2 z)) (p := g.1) (q := g.2)).2 (by omega)
    have hin : prI P W F a b (fun z => neB P z && decide (0 ≤ lsP P W F a b g.1 g.2 z)) x ∈ rfL P W F a b f x := by
      generalize hI : (fun z => neB P z && decide (0 ≤ lsP P W F a b g.1 g.2 z)) = I at *
      have hIz : ∀ z, I z = true ↔ neB P z = true ∧ 0 ≤ lsP P W F a b g.1 g.2 z := fun z => by rw [← hI]; simp
      rcases Decidable.em (∃ y, y < P.length ∧ rch P I x y = true ∧ y ≠ x) with ⟨y0, hy0, hr0, hne0⟩ | hno
      · have hl : 0 < (((List.range P.length).filter fun y => rch P I x y && decide (y ≠ x)).map f).length := by
          rw [List.length_map]
          exact List.length_pos_of_mem (List.mem_filter.2 ⟨List.mem_range.2 hy0, by simp [hr0, hne0]⟩)
        have hm := topOf_mem (up := false) hl
        obtain ⟨y, hy, ey⟩ := List.mem_map.1 hm
        have hprop : ∀ z, z ∈ ((List.range P.length).filter fun y => rch P I x y && decide (y ≠ x)) → z < P.length ∧ rch P I x z = true ∧ z ≠ x ∧ x < z ∧ endB P z = false ∧ f z = idxP P W F a b z := by
          intro z hz
          simp only [List.mem_filter, List.mem_range, Bool.and_eq_true, decide_eq_true_eq] at hz
          have h1 := rch_le hz.2.1
          have h2 := neB_iff.1 ((hIz z).1 (rch_in hz.2.1 hz.2.2)).1
          exact ⟨hz.1, hz.2.1, hz.2.2, by omega, h2, hf z (by omega) hz.1 h2⟩
        obtain ⟨hyl, hyr, hyne, hxy, hye, hyf⟩ := hprop y hy
        have hmin : ∀ z, z ∈ ((List.range P.length).filter fun y => rch P I x y && decide (y ≠ x)) → lessP (f z) (f y) = false := by
          intro z hz
          rw [ey]
          refine topOf_max (up := false) (fun g hg => ?_) (List.mem_map.2 ⟨z, hz, rfl⟩)
          obtain ⟨u, hu, rfl⟩ := List.mem_map.1 hg
          obtain ⟨h1, _, _, _, _, h6⟩ := hprop u hu
          rw [h6]
          exact fr_pos (idx_fr h h1)
        have hyI := (hIz y).1 (rch_in hyr hyne)
        have hyg := (lsP_iff h hyl hye hq).1 hyI.2
        have hc : ∀ z, z < P.length → rch P I x z = rch P (inY P f x y) x z := by
          intro z hz
          refine rch_congr hp hz fun u hxu huz hor => ?_
          have hul : u < P.length := by omega
          rcases hor with hr | hr
          · have h1 := rch_in hr (by omega)
            rw [h1]
            simp only [inY, Bool.and_eq_true, Bool.not_eq_true', decide_eq_true_eq] at h1
            have h2 := neB_iff.1 h1.2.1
            refine (hIz u).2 ⟨h1.2.1, (lsP_iff h hul h2 hq).2 ?_⟩
            have h3 := less_no.1 h1.2.2
            rw [hf u hxu hul h2, hyf] at h3
            exact le_trans3 (fr_pos (idx_fr h hyl)) (by omega) (by have := fr_pos (idx_fr h hul); omega) hyg h3
          · have h1 := rch_in hr (by omega)
            rw [h1]
            have h2 := (hIz u).1 h1
            have h3 := hmin u (List.mem_filter.2 ⟨List.mem_range.2 hul, by simp [hr]; omega⟩)
            simp only [inY, decide_eq_true hxu, h2.1, h3]
            rfl
        rw [prI_congr hp hc, rfL, rfTo]
        refine List.mem_cons_of_mem _ (List.mem_map.2 ⟨y, List.mem_filter.2 ⟨List.mem_range.2 hyl, ?_⟩, rfl⟩)
        simp only [decide_eq_true hxy, rch_und hp hyl hyr, neB_iff.2 hye]
        rfl
      · rw [prI_none h hx fun y hy hr => Decidable.byContradiction fun hne => hno ⟨y, hy, hr, hne⟩, rfL, rfTo]
        exact List.mem_cons_self
    have hmx := topOf_max (up := true) (fun g hg => fr_pos (rf_fr h hx g hg)) hin
    have hmx' := less_no.1 (show lessP (topOf true (rfL P W F a b f x)) (prI P W F a b (fun z => neB P z && decide (0 ≤ lsP P W F a b g.1 g.2 z)) x) = false from hmx)
    refine less_no.2 (le_trans3 (fr_pos (prI_fr h hx _)) ?_ ?_ hge hmx')
    · omega
    · have := fr_pos (rf_fr h hx _ (topOf_mem (up := true) (rf_pos (P := P) (W := W) (F := F) (a := a) (b := b) f x))); omega
  · exact hle
end
end Go.Proofs.Ytdhagkckkdaenaa
