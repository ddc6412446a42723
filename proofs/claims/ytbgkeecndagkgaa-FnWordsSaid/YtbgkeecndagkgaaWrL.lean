/- The law FnWords, plainly: the team's holdings over all lists of throws are the throws that were paid. -/
import Derived.Test.YtbgkeecndagkgaaTw
import Derived.Test.YtbgkeecndagkgaaWo
namespace Go.Proofs.Ytbgkeecndagkgaa

theorem untG_spec (p : Nat → Bool) (hi : Nat) : ∀ f k, hi < k + f →
    (k ≤ untG p hi f k ∧ p (untG p hi f k) = true ∧ untG p hi f k ≤ hi ∧ ∀ j, k ≤ j → j < untG p hi f k → p j = false) ∨ (untG p hi f k = hi ∧ ∀ j, k ≤ j → j ≤ hi → p j = false) := by
  intro f
  induction f with
  | zero =>
    intro k hk
    exact .inr ⟨rfl, fun j h1 h2 => by omega⟩
  | succ f ih =>
    intro k hk
    by_cases h : k ≤ hi
    · cases hp : p k
      · rw [untG_miss h hp]
        rcases ih (k + 1) (by omega) with ⟨h1, h2, h3, h4⟩ | ⟨h1, h2⟩
        · refine .inl ⟨by omega, h2, h3, fun j hj hj2 => ?_⟩
          rcases Nat.lt_or_ge k j with hkj | hkj
          · exact h4 j hkj hj2
          · obtain rfl : j = k := by omega
            exact hp
        · refine .inr ⟨h1, fun j hj hj2 => ?_⟩
          rcases Nat.lt_or_ge k j with hkj | hkj
          · exact h2 j hkj hj2
          · obtain rfl : j = k := by omega
            exact hp
      · rw [untG_hit h hp]
        exact .inl ⟨Nat.le_refl _, hp, h, fun j h1 h2 => by omega⟩
    · rw [untG_end h]
      exact .inr ⟨rfl, fun j h1 h2 => by omega⟩
theorem unt_spec (wd th : List Int) :
    (wd.length ≤ unt wd th ∧ hitB wd th (unt wd th) = true ∧ unt wd th ≤ th.length ∧ ∀ j, wd.length ≤ j → j < unt wd th → hitB wd th j = false) ∨ (unt wd th = th.length ∧ ∀ j, wd.length ≤ j → j ≤ th.length → hitB wd th j = false) :=
  untG_spec _ _ _ _ (by omega)
/-- Some throws show the word. -/
def shown (wd th : List Int) : Prop := ∃ k, wd.length ≤ k ∧ k ≤ th.length ∧ hitB wd th k = true
theorem hit_app {wd l : List Int} {c : Int} {k : Nat} (hk : k ≤ l.length) : hitB wd (l ++ [c]) k = hitB wd l k := by
  unfold hitB
  rw [List.take_append_of_le_length hk]
theorem unt_uniq {wd th : List Int} {u : Nat} (h1 : wd.length ≤ u) (h2 : u ≤ th.length) (h3 : hitB wd th u = true) (h4 : ∀ j, wd.length ≤ j → j < u → hitB wd th j = false) : unt wd th = u := by
  rcases unt_spec wd th with ⟨a, b, c, d⟩ | ⟨a, b⟩
  · rcases Nat.lt_trichotomy (unt wd th) u with h | h | h
    · rw [h4 _ a h] at b; cases b
    · exact h
    · rw [d u h1 h] at h3; cases h3
  · rw [b u h1 h2] at h3; cases h3
theorem unt_shown {wd l : List Int} (c : Int) (h : shown wd l) : unt wd (l ++ [c]) = unt wd l := by
  rcases unt_spec wd l with ⟨a, b, d, e⟩ | ⟨a, b⟩
  · refine unt_uniq a (by simp; omega) (by rw [hit_app d]; exact b) fun j h1 h2 => ?_
    rw [hit_app (by omega)]
    exact e j h1 h2
  · obtain ⟨k, h1, h2, h3⟩ := h
    rw [b k h1 h2] at h3
    cases h3
theorem unt_not {wd l : List Int} (h : ¬ shown wd l) : unt wd l = l.length := by
  rcases unt_spec wd l with ⟨a, b, d, e⟩ | ⟨a, b⟩
  · exact absurd ⟨_, a, d, b⟩ h
  · exact a
theorem unt_next {wd l : List Int} (c : Int) (h : ¬ shown wd l) : unt wd (l ++ [c]) = l.length + 1 := by
  rcases unt_spec wd (l ++ [c]) with ⟨a, b, d, e⟩ | ⟨a, b⟩
  · rcases Nat.lt_or_ge l.length (unt wd (l ++ [c])) with h1 | h1
    · simp at d; omega
    · rw [hit_app h1] at b
      exact absurd ⟨_, a, h1, b⟩ h
  · simpa using a

/-- Sums over lists of throws, and over faces. -/
def sz (g : List Int → Int) : List (List Int) → Int
  | [] => 0
  | l :: L => g l + sz g L
theorem sz_append (g : List Int → Int) (L M : List (List Int)) : sz g (L ++ M) = sz g L + sz g M := by
  induction L with
  | nil => simp [sz]
  | cons l L ih => simp only [List.cons_append, sz, ih]; omega
def sc (h : Nat → Int) : Nat → Int
  | 0 => 0
  | c + 1 => sc h c + h c
/-- A list and each face behind it. -/
def app1 (l : List Int) : Nat → List (List Int)
  | 0 => []
  | c + 1 => app1 l c ++ [l ++ [(c : Int)]]
def flat1 (f : Nat) : List (List Int) → List (List Int)
  | [] => []
  | l :: L => app1 l f ++ flat1 f L
def allL (f : Nat) : Nat → List (List Int)
  | 0 => [[]]
  | n + 1 => flat1 f (allL f n)
theorem sz_app1 (g : List Int → Int) (l : List Int) (f : Nat) : sz g (app1 l f) = sc (fun c => g (l ++ [(c : Int)])) f := by
  induction f with
  | zero => rfl
  | succ f ih => rw [app1, sz_append, ih]; simp [sz, sc]
theorem sz_flat1 (g : List Int → Int) (f : Nat) (L : List (List Int)) : sz g (flat1 f L) = sz (fun l => sc (fun c => g (l ++ [(c : Int)])) f) L := by
  induction L with
  | nil => rfl
  | cons l L ih => rw [flat1, sz_append, ih, sz_app1]; rfl
theorem sz_congr {g h : List Int → Int} {L : List (List Int)} (e : ∀ l ∈ L, g l = h l) : sz g L = sz h L := by
  induction L with
  | nil => rfl
  | cons l L ih => rw [sz, sz, e l (List.mem_cons_self ..), ih fun x hx => e x (List.mem_cons_of_mem _ hx)]
theorem sc_congr {g h : Nat → Int} {f : Nat} (e : ∀ c, c < f → g c = h c) : sc g f = sc h f := by
  induction f with
  | zero => rfl
  | succ f ih => rw [sc, sc, e f (by omega), ih fun c hc => e c (by omega)]
theorem sc_add (g h : Nat → Int) (f : Nat) : sc (fun c => g c + h c) f = sc g f + sc h f := by
  induction f with
  | zero => rfl
  | succ f ih => rw [sc, sc, sc, ih]; omega
theorem sc_sub (g h : Nat → Int) (f : Nat) : sc (fun c => g c - h c) f = sc g f - sc h f := by
  induction f with
  | zero => rfl
  | succ f ih => rw [sc, sc, sc, ih]; omega
theorem sc_const (x : Int) (f : Nat) : sc (fun _ => x) f = f * x := by
  induction f with
  | zero => simp [sc]
  | succ f ih => rw [sc, ih, Int.natCast_succ, Int.add_mul]; omega
theorem sz_mul (g : List Int → Int) (x : Int) (L : List (List Int)) : sz (fun l => x * g l) L = x * sz g L := by
  induction L with
  | nil => simp [sz]
  | cons l L ih => rw [sz, sz, ih, Int.mul_add]
/-- One face is the one that the word wants. -/
theorem sc_one (a x : Int) (f : Nat) (h0 : 0 ≤ a) : sc (fun c => if (c : Int) = a then x else 0) f = if a < f then x else 0 := by
  induction f with
  | zero => rw [if_neg (by omega)]; rfl
  | succ f ih =>
    rw [sc, ih]
    by_cases h : (f : Int) = a
    · rw [if_pos h, if_neg (by omega), if_pos (by omega)]; omega
    · rw [if_neg h]
      by_cases h2 : a < (f : Int)
      · rw [if_pos h2, if_pos (by omega)]; omega
      · rw [if_neg h2, if_neg (by omega)]; rfl

theorem ends_next {wd l : List Int} {c : Int} {k : Nat} (hk : k < wd.length) (hl : k ≤ l.length) : endsB (l ++ [c]) wd (k + 1) = (endsB l wd k && decide (c = nth wd k)) := by
  rw [ends_1 (by simp; omega) (by omega), ends_1 hl (by omega)]
  have e1 : (l ++ [c]).drop ((l ++ [c]).length - (k + 1)) = l.drop (l.length - k) ++ [c] := by
    have : (l ++ [c]).length - (k + 1) = l.length - k := by simp
    rw [this, List.drop_append_of_le_length (by omega)]
  have e2 : wd.take (k + 1) = wd.take k ++ [nth wd k] := by rw [nth_eq hk, List.take_append_getElem]
  rw [e1, e2, ← Bool.decide_and]
  refine decide_eq_decide.2 ⟨fun h => ?_, fun ⟨h1, h2⟩ => by rw [h1, h2]⟩
  have := List.append_inj' h rfl
  exact ⟨this.1, by simpa using this.2⟩
theorem ovS_zero (F : Int) (xs ys : List Int) : ovS F xs ys 0 = 0 := rfl
theorem pw_one (F : Int) : pw F 1 = F := by simp [pw]
theorem ovS_next (f : Nat) {wd l : List Int} (hw : ∀ k, k < wd.length → 0 ≤ nth wd k ∧ nth wd k < (f : Int)) : ∀ j, j ≤ l.length → j < wd.length →
    sc (fun c => ovS f (l ++ [(c : Int)]) wd (j + 1)) f = f * (1 + ovS f l wd j) := by
  have one : ∀ j, j ≤ l.length → j < wd.length → sc (fun c => if endsB (l ++ [(c : Int)]) wd (j + 1) then pw f (j + 1) else 0) f = if endsB l wd j then pw f (j + 1) else 0 := by
    intro j h1 h2
    rw [sc_congr (h := fun c => if (c : Int) = nth wd j then (if endsB l wd j then pw f (j + 1) else 0) else 0) fun c _ => by
      rw [ends_next h2 h1]
      cases endsB l wd j <;> by_cases h : (c : Int) = nth wd j <;> simp [h]]
    rw [sc_one _ _ _ (hw j h2).1, if_pos (hw j h2).2]
  intro j
  induction j with
  | zero =>
    intro h1 h2
    rw [sc_congr (h := fun c => if endsB (l ++ [(c : Int)]) wd (0 + 1) then pw f (0 + 1) else 0) fun c _ => by rw [ovS_succ, ovS_zero, Int.zero_add]]
    rw [one 0 h1 h2, ovS_zero]
    have : endsB l wd 0 = true := by simp [endsB]
    rw [this, if_pos rfl, Nat.zero_add, pw_one]
    omega
  | succ j ih =>
    intro h1 h2
    rw [sc_congr (h := fun c => ovS f (l ++ [(c : Int)]) wd (j + 1) + if endsB (l ++ [(c : Int)]) wd (j + 1 + 1) then pw f (j + 1 + 1) else 0) fun c _ => by rw [ovS_succ (j := j + 1)]]
    rw [sc_add, ih (by omega) (by omega), one (j + 1) h1 h2, ovS_succ (j := j)]
    cases endsB l wd (j + 1)
    · simp
    · simp only [if_true]
      rw [pw_succ (f : Int) (j + 1), ← Int.add_assoc 1, Int.mul_add (f : Int) (1 + _), Int.mul_comm (pw _ _)]
theorem ovSum_next (f : Nat) {wd l : List Int} (hw : ∀ k, k < wd.length → 0 ≤ nth wd k ∧ nth wd k < (f : Int)) (h1 : 1 ≤ wd.length) (hn : ¬ shown wd l) :
    sc (fun c => ovSum f (l ++ [(c : Int)]) wd) f = f * (1 + ovSum f l wd) := by
  rcases Nat.lt_or_ge l.length wd.length with h | h
  · have e : ∀ c : Nat, ovSum f (l ++ [(c : Int)]) wd = ovS f (l ++ [(c : Int)]) wd (l.length + 1) := fun c => by
      rw [ovSum_S]
      congr 1
      simp
      omega
    rw [sc_congr fun c _ => e c, ovS_next f hw l.length (Nat.le_refl _) h, ovSum_S, Nat.min_eq_left (by omega)]
  · obtain ⟨j, hj⟩ : ∃ j, wd.length = j + 1 := ⟨wd.length - 1, by omega⟩
    have e : ∀ c : Nat, ovSum f (l ++ [(c : Int)]) wd = ovS f (l ++ [(c : Int)]) wd (j + 1) := fun c => by
      rw [ovSum_S]
      congr 1
      simp
      omega
    rw [sc_congr fun c _ => e c, ovS_next f hw j (by omega) (by omega), ovSum_S, Nat.min_eq_right h, hj, ovS_succ]
    have hh : endsB l wd (j + 1) = false := by
      have := hit_ends (wd := wd) (th := l) h (Nat.le_refl _)
      rw [List.take_length, hj] at this
      rw [this, Bool.eq_false_iff]
      exact fun hb => hn ⟨_, h, Nat.le_refl _, hb⟩
    rw [hh]
    simp
/-- What the team has more than was paid. -/
def moreV (f : Nat) (wd l : List Int) : Int := ovSum f (l.take (unt wd l)) wd - (unt wd l : Int)
theorem moreV_next (f : Nat) {wd : List Int} (l : List Int) (hw : ∀ k, k < wd.length → 0 ≤ nth wd k ∧ nth wd k < (f : Int)) (h1 : 1 ≤ wd.length) :
    sc (fun c => moreV f wd (l ++ [(c : Int)])) f = f * moreV f wd l := by
  by_cases hs : shown wd l
  · have e : ∀ c : Nat, moreV f wd (l ++ [(c : Int)]) = moreV f wd l := fun c => by
      unfold moreV
      rw [unt_shown _ hs, List.take_append_of_le_length (unt_le _ _)]
    rw [sc_congr fun c _ => e c, sc_const]
  · have e : ∀ c : Nat, moreV f wd (l ++ [(c : Int)]) = ovSum f (l ++ [(c : Int)]) wd - ((l.length : Int) + 1) := fun c => by
      unfold moreV
      rw [unt_next _ hs, List.take_of_length_le (by simp)]
      simp
    rw [sc_congr fun c _ => e c, sc_sub, ovSum_next f hw h1 hs, sc_const]
    unfold moreV
    rw [unt_not hs, List.take_length, ← Int.mul_sub]
    congr 1
    omega
theorem moreV_sum (f : Nat) {wd : List Int} (hw : ∀ k, k < wd.length → 0 ≤ nth wd k ∧ nth wd k < (f : Int)) (h1 : 1 ≤ wd.length) (n : Nat) : sz (moreV f wd) (allL f n) = 0 := by
  induction n with
  | zero =>
    have hu : unt wd [] = 0 := by have := unt_le wd []; simpa using this
    simp [allL, sz, moreV, hu, ovSum_S, ovS_zero]
  | succ n ih =>
    rw [allL, sz_flat1, sz_congr fun l _ => moreV_next f l hw h1, sz_mul, ih, Int.mul_zero]
/-- Where the word is shown, the team has what the word is worth. -/
theorem ovSum_hit (F : Int) {wd l : List Int} {u : Nat} (h1 : wd.length ≤ u) (h2 : u ≤ l.length) (h : hitB wd l u = true) : ovSum F (l.take u) wd = ovSum F wd wd := by
  have hl : (l.take u).length = u := by simp; omega
  have hd : (l.take u).drop (u - wd.length) = wd := of_decide_eq_true h
  have key : ∀ k, k ≤ wd.length → endsB (l.take u) wd k = endsB wd wd k := by
    intro k hk
    rw [ends_1 (by omega) hk, ends_1 hk hk, hl]
    have : (l.take u).drop (u - k) = wd.drop (wd.length - k) := by
      conv => rhs; rw [← hd]
      rw [List.drop_drop, hd]
      congr 1
      omega
    rw [this]
  have ind : ∀ j, j ≤ wd.length → ovS F (l.take u) wd j = ovS F wd wd j := by
    intro j
    induction j with
    | zero => intro _; rfl
    | succ j ih => intro hj; rw [ovS_succ, ovS_succ, ih (by omega), key _ hj]
  rw [ovSum_S, ovSum_S, hl, Nat.min_eq_right h1, Nat.min_self]
  exact ind _ (Nat.le_refl _)
end Go.Proofs.Ytbgkeecndagkgaa
