/- PlayGain, the reference's test of a set, plainly. No program stands here. -/
import Derived.Test.YtdhagkckkdaenaaPgW
namespace Go.Proofs.Ytdhagkckkdaenaa

/-- The first k numbers rise and lie between 0 and n. -/
def ascT (S : List Int) (n : Int) : Nat → Bool
  | 0 => true
  | k + 1 => ascT S n k && (inB (nth S k) 0 n && (decide (k = 0) || decide (nth S (k - 1) < nth S k)))
theorem ascT_iff {S : List Int} {n : Int} : ∀ {k}, ascT S n k = true ↔ ∀ j, j < k → (0 ≤ nth S j ∧ nth S j ≤ n) ∧ (0 < j → nth S (j - 1) < nth S j)
  | 0 => by simp [ascT]
  | k + 1 => by
    rw [ascT]
    simp only [Bool.and_eq_true, Bool.or_eq_true, decide_eq_true_eq, inB_iff, ascT_iff (k := k)]
    constructor
    · rintro ⟨h1, h2, h3⟩ j hj
      rcases Nat.eq_or_lt_of_le (Nat.lt_succ_iff.1 hj) with rfl | h
      · exact ⟨h2, fun h0 => h3.resolve_left (by omega)⟩
      · exact h1 j h
    · intro h
      refine ⟨fun j hj => h j (by omega), (h k (by omega)).1, ?_⟩
      rcases Nat.eq_zero_or_pos k with h0 | h0
      · exact .inl h0
      · exact .inr ((h k (by omega)).2 h0)
theorem ascT_no {S : List Int} {n : Int} {k m : Nat} (h : ascT S n k = false) (hk : k ≤ m) : ascT S n m = false := by
  cases hb : ascT S n m
  · rfl
  · have h1 := ascT_iff.1 hb
    rw [ascT_iff.2 fun j hj => h1 j (by omega)] at h
    cases h
theorem asc_lt {S : List Int} {n : Int} {m : Nat} (h : ascT S n m = true) {i : Nat} : ∀ j, i < j → j < m → nth S i < nth S j
  | 0, h1, _ => by omega
  | j + 1, h1, h2 => by
    have h3 := (ascT_iff.1 h (j + 1) h2).2 (by omega)
    rw [Nat.add_sub_cancel] at h3
    rcases Nat.eq_or_lt_of_le (Nat.lt_succ_iff.1 h1) with rfl | h4
    · exact h3
    · have := asc_lt h j h4 (by omega)
      omega
theorem asc_pair {S : List Int} {n : Int} (h : ascT S n S.length = true) : S.Pairwise (· < ·) := by
  rw [List.pairwise_iff_getElem]
  intro i j hi hj hij
  have := asc_lt h j hij hj
  rw [nth_eq hi, nth_eq hj] at this
  exact this
theorem asc_ext : ∀ {l1 l2 : List Int}, l1.Pairwise (· < ·) → l2.Pairwise (· < ·) → (∀ q, q ∈ l1 ↔ q ∈ l2) → l1 = l2
  | [], [], _, _, _ => rfl
  | [], b :: u, _, _, h => by have := (h b).2 List.mem_cons_self; cases this
  | a :: t, [], _, _, h => by have := (h a).1 List.mem_cons_self; cases this
  | a :: t, b :: u, h1, h2, h => by
    rw [List.pairwise_cons] at h1 h2
    have e : a = b := by
      rcases List.mem_cons.1 ((h a).1 List.mem_cons_self) with e | e
      · exact e
      · rcases List.mem_cons.1 ((h b).2 List.mem_cons_self) with e' | e'
        · exact e'.symm
        · have := h2.1 a e
          have := h1.1 b e'
          omega
    subst e
    rw [asc_ext h1.2 h2.2]
    intro q
    constructor
    · intro hq
      have h3 := h1.1 q hq
      rcases List.mem_cons.1 ((h q).1 (List.mem_cons_of_mem _ hq)) with e | e
      · omega
      · exact e
    · intro hq
      have h3 := h2.1 q hq
      rcases List.mem_cons.1 ((h q).2 (List.mem_cons_of_mem _ hq)) with e | e
      · omega
      · exact e
theorem rL_pair (P : List Int) (i : Nat → Bool) (x k : Nat) : (rL P i x k).Pairwise (· < ·) := by
  unfold rL
  rw [List.pairwise_map]
  refine List.Pairwise.imp ?_ ((List.pairwise_lt_range (n := k)).filter _)
  intro a b h
  omega
/-- The first k nodes are inner ones, each with its parent ahead of it. -/
def okT (P S : List Int) : Nat → Bool
  | 0 => true
  | k + 1 => okT P S k && (!endB P (nth S k).toNat && (decide (nth S k = 0) || hasI (S.take k) (nth P (nth S k).toNat)))
theorem okT_iff {P S : List Int} : ∀ {k}, okT P S k = true ↔ ∀ j, j < k → endB P (nth S j).toNat = false ∧ (nth S j = 0 ∨ hasI (S.take j) (nth P (nth S j).toNat) = true)
  | 0 => by simp [okT]
  | k + 1 => by
    rw [okT]
    simp only [Bool.and_eq_true, Bool.or_eq_true, decide_eq_true_eq, Bool.not_eq_true', okT_iff (k := k)]
    constructor
    · rintro ⟨h1, h2, h3⟩ j hj
      rcases Nat.eq_or_lt_of_le (Nat.lt_succ_iff.1 hj) with rfl | h
      · exact ⟨h2, h3⟩
      · exact h1 j h
    · intro h
      exact ⟨fun j hj => h j (by omega), (h k (by omega)).1, (h k (by omega)).2⟩
theorem okT_no {P S : List Int} {k m : Nat} (h : okT P S k = false) (hk : k ≤ m) : okT P S m = false := by
  cases hb : okT P S m
  · rfl
  · have h1 := okT_iff.1 hb
    rw [okT_iff.2 fun j hj => h1 j (by omega)] at h
    cases h
/-- Being in a set. -/
def memB (S : List Int) (y : Nat) : Bool := hasI S (y : Int)
theorem ok_rL {P S : List Int} (hp : ParOk P) (h1 : ascT S ((P.length : Int) - 1) S.length = true) (h2 : 0 < S.length) (h3 : nth S 0 = 0) (h4 : okT P S S.length = true) : S = rL P (memB S) 0 P.length := by
  have hin : ∀ j, j < S.length → ∃ y : Nat, nth S j = (y : Int) ∧ y < P.length := fun j hj => by
    have := (ascT_iff.1 h1 j hj).1
    exact ⟨(nth S j).toNat, by omega, by omega⟩
  have hmem : ∀ y : Nat, y < P.length → ((y : Int) ∈ S ↔ rch P (memB S) 0 y = true) := by
    intro y
    induction y using Nat.strongRecOn with
    | _ y ih =>
      intro hy
      rcases Nat.eq_zero_or_pos y with rfl | h0
      · rw [rch_self]
        refine ⟨fun _ => rfl, fun _ => ?_⟩
        have := List.getElem_mem h2
        rw [← nth_eq h2, h3] at this
        exact this
      · obtain ⟨p, hpp, hpl⟩ := par_of hp h0 hy
        rw [rch_step hpp hpl h0, Bool.and_eq_true]
        constructor
        · intro hm
          refine ⟨hasI_iff.2 hm, (ih p hpl (by omega)).1 ?_⟩
          obtain ⟨j, hj, e⟩ := List.mem_iff_getElem.1 hm
          have e' : nth S j = (y : Int) := by rw [nth_eq hj]; exact e
          have h5 := (okT_iff.1 h4 j hj).2
          rw [e', Int.toNat_natCast, hpp] at h5
          exact List.mem_of_mem_take (hasI_iff.1 (h5.resolve_left (by omega)))
        · intro hm
          exact hasI_iff.1 hm.1
  refine asc_ext (asc_pair h1) (rL_pair _ _ _ _) fun q => ?_
  rw [mem_rL]
  constructor
  · intro hq
    obtain ⟨j, hj, e⟩ := List.mem_iff_getElem.1 hq
    obtain ⟨y, e', hy⟩ := hin j hj
    rw [nth_eq hj, e] at e'
    subst e'
    exact ⟨y, hy, (hmem y hy).1 hq, rfl⟩
  · rintro ⟨y, hy, hr, rfl⟩
    exact (hmem y hy).2 hr
section
variable {P W F : List Int} {a b : Int} {S : List Int}
/-- The reference's test. -/
def pgT (P S : List Int) : Bool := decide (0 < S.length) && (ascT S ((P.length : Int) - 1) S.length && (decide (nth S 0 = 0) && okT P S S.length))
theorem pgT_iff : pgT P S = true ↔ 0 < S.length ∧ ascT S ((P.length : Int) - 1) S.length = true ∧ nth S 0 = 0 ∧ okT P S S.length = true := by
  simp only [pgT, Bool.and_eq_true, decide_eq_true_eq]
theorem pgT_eq (h : ArmAB P W F a b) : decide (S ∈ sts P 0) = pgT P S := by
  have hp := h.arm.tree.par
  have hn : 0 < P.length := by have := h.arm.tree.n1; omega
  rw [Bool.eq_iff_iff, decide_eq_true_eq, pgT_iff]
  constructor
  · intro hm
    have he : endB P 0 = false := by
      cases he : endB P 0
      · rfl
      · rw [sts_end he] at hm
        cases hm
    obtain ⟨i, hi, rfl⟩ := (mem_sts hp hn he S).1 hm
    have hat := rL_at (P := P) i 0 P.length
    have hpw := rL_pair P i 0 P.length
    rw [List.pairwise_iff_getElem] at hpw
    have hlt : ∀ u v, u < v → v < (rL P i 0 P.length).length → nth (rL P i 0 P.length) u < nth (rL P i 0 P.length) v := fun u v h1 h2 => by
      rw [nth_eq h2, nth_eq (show u < _ by omega)]
      exact hpw u v _ _ h1
    have hm0 : ((0 : Nat) : Int) ∈ rL P i 0 P.length := mem_rL.2 ⟨0, hn, rch_self, rfl⟩
    obtain ⟨j0, hj0, e0⟩ := List.mem_iff_getElem.1 hm0
    have e0' : nth (rL P i 0 P.length) j0 = 0 := by rw [nth_eq hj0]; exact e0
    have hz : nth (rL P i 0 P.length) 0 = 0 := by
      rcases Nat.eq_zero_or_pos j0 with e | e
      · subst e; exact e0'
      · have h1 := hlt 0 j0 e hj0
        obtain ⟨y, h2, _, _⟩ := hat 0 (by omega)
        omega
    refine ⟨by omega, ascT_iff.2 fun j hj => ?_, hz, okT_iff.2 fun j hj => ?_⟩
    · obtain ⟨y, h1, h2, _⟩ := hat j hj
      exact ⟨by omega, fun h3 => hlt (j - 1) j (by omega) hj⟩
    · obtain ⟨y, h1, h2, h3⟩ := hat j hj
      rw [h1, Int.toNat_natCast]
      rcases Nat.eq_zero_or_pos y with rfl | hy0
      · exact ⟨he, .inl rfl⟩
      · refine ⟨hi y (rch_in h3 (by omega)), .inr ?_⟩
        obtain ⟨p, hpp, hpl⟩ := par_of hp hy0 h2
        rw [rch_step hpp hpl hy0, Bool.and_eq_true] at h3
        rw [hpp, hasI_iff]
        obtain ⟨u, hu, eu⟩ := List.mem_iff_getElem.1 (mem_rL.2 ⟨p, by omega, h3.2, rfl⟩ : (p : Int) ∈ rL P i 0 P.length)
        have eu' : nth (rL P i 0 P.length) u = (p : Int) := by rw [nth_eq hu]; exact eu
        have huj : u < j := by
          rcases Nat.lt_or_ge u j with h4 | h4
          · exact h4
          · rcases Nat.eq_or_lt_of_le h4 with rfl | h5
            · omega
            · have := hlt j u h5 hu
              omega
        rw [List.mem_take_iff_getElem]
        exact ⟨u, by omega, eu⟩
  · rintro ⟨h1, h2, h3, h4⟩
    have hS := ok_rL hp h2 h1 h3 h4
    have he : endB P 0 = false := by
      have := (okT_iff.1 h4 0 h1).1
      rw [h3] at this
      exact this
    rw [mem_sts hp hn he]
    refine ⟨fun z => memB S z && decide (z < P.length), fun z hz => ?_, ?_⟩
    · simp only [Bool.and_eq_true, decide_eq_true_eq] at hz
      obtain ⟨j, hj, e⟩ := List.mem_iff_getElem.1 (hasI_iff.1 hz.1)
      have e' : nth S j = (z : Int) := by rw [nth_eq hj]; exact e
      have := (okT_iff.1 h4 j hj).1
      rw [e', Int.toNat_natCast] at this
      exact this
    · rw [← rL_congr (i := memB S) fun y hy => rch_congr hp hy fun z _ hz _ => by simp only [decide_eq_true (show z < P.length by omega), Bool.and_true]]
      exact hS
theorem pgB_T (h : (armB P W F && discB a b) = true) : pgB P W F a b S = pgT P S := by
  rw [pgB, h, Bool.true_and, pgT_eq (armAB_iff.1 h)]
theorem gnR_congr {i i' : Nat → Bool} {x : Nat} (hr : ∀ y, y < P.length → rch P i x y = rch P i' x y) : gnR P W F a b i x = gnR P W F a b i' x ∧ tmR P W a b i x = tmR P W a b i' x := by
  have e : ∀ v, tot P a i v x = tot P a i' v x := fun v => by
    unfold tot
    exact sN_congr fun y hy => by rw [hr y hy]
  exact ⟨e _, e _⟩
/-- The row of the set's members, when the first k have been laid in. -/
def inS (P S : List Int) (k : Nat) : List Bool := (List.range P.length).map fun (y : Nat) => hasI (S.take k) (y : Int)
theorem inS_len (k : Nat) : (inS P S k).length = P.length := by simp [inS]
theorem inS_zero : inS P S 0 = List.replicate P.length false := by
  apply List.ext_getElem
  · simp [inS]
  · intro i h1 h2
    simp [inS, hasI]
theorem inS_nth {k y : Nat} (hy : y < P.length) : nthB (inS P S k) y = hasI (S.take k) (y : Int) := by simp [nthB, inS, hy]
theorem inS_step {k y : Nat} (hk : k < S.length) (hy : nth S k = (y : Int)) : (inS P S k).set y true = inS P S (k + 1) := by
  apply List.ext_getElem
  · simp [inS]
  · intro i h1 h2
    rw [List.getElem_set]
    simp only [inS, List.getElem_map, List.getElem_range]
    have e : hasI (S.take (k + 1)) (i : Int) = (hasI (S.take k) (i : Int) || decide ((y : Int) = (i : Int))) := by
      rw [List.take_succ_eq_append_getElem hk, ← nth_eq hk, hy]
      unfold hasI
      rw [List.any_append]
      simp only [List.any_cons, List.any_nil, Bool.or_false]
      congr 1
    rw [e]
    by_cases h : y = i
    · subst h
      simp
    · rw [if_neg h, decide_eq_false (by omega), Bool.or_false]
theorem inS_all (h : ArmAB P W F a b) (x : Nat) : gnR P W F a b (nthB (inS P S S.length)) x = gnR P W F a b (memB S) x ∧ tmR P W a b (nthB (inS P S S.length)) x = tmR P W a b (memB S) x :=
  gnR_congr fun y hy => rch_congr h.arm.tree.par hy fun z _ hz _ => by rw [inS_nth (by omega), List.take_length]; rfl
/-- The reference's fractions. -/
theorem pg_spec (h : ArmAB P W F a b) (hT : pgT P S = true) :
    pgF P W F a b S = (cutT (gnR P W F a b (nthB (inS P S S.length)) 0) (unitX P W b 0), cutB (gnR P W F a b (nthB (inS P S S.length)) 0) (unitX P W b 0)) ∧
    pgG P W F a b S = (cutT (tmR P W a b (nthB (inS P S S.length)) 0) (unitX P W b 0), cutB (tmR P W a b (nthB (inS P S S.length)) 0) (unitX P W b 0)) := by
  obtain ⟨h1, h2, h3, h4⟩ := pgT_iff.1 hT
  have hS := ok_rL h.arm.tree.par h2 h1 h3 h4
  have hB : pgB P W F a b S = true := by rw [pgB_T (armAB_iff.2 h)]; exact hT
  have hr := pg_ref h (memB S)
  rw [← hS] at hr
  rw [(pg_yes hB).1, (pg_yes hB).2, (inS_all h 0).1, (inS_all h 0).2]
  exact hr
end
end Go.Proofs.Ytdhagkckkdaenaa
