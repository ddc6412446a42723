/- The law FnWords, plainly: two words' odds make one; the lists of throws; what the law's loop counts. -/
import Derived.Test.YtbgkeecndagkgaaWrM
import Derived.Test.YtbgkeecndagkgaaRowAt
namespace Go.Proofs.Ytbgkeecndagkgaa

theorem frac_one : fracB 1 1 = true := by decide
theorem wo_sum {f : Int} {xs ys : List Int} (h1 : woO f xs ys = true) (h2 : woO f ys xs = true) :
    fracB (woT f xs ys) (woB f xs ys) = true ∧ fracB (woT f ys xs) (woB f ys xs) = true ∧
    lwT (woT f xs ys * woB f ys xs + woT f ys xs * woB f xs ys) (woB f xs ys * woB f ys xs) = 1 ∧
    lwB (woT f xs ys * woB f ys xs + woT f ys xs * woB f xs ys) (woB f xs ys * woB f ys xs) = 1 := by
  have k1 : woOk f xs ys = true := by unfold woO at h1; exact (Bool.and_eq_true _ _ ▸ h1).1
  have k2 : woOk f ys xs = true := by unfold woO at h2; exact (Bool.and_eq_true _ _ ▸ h2).1
  obtain ⟨a1, a2, a3⟩ := wo_yes k1
  obtain ⟨b1, b2, b3⟩ := wo_yes k2
  rw [a3] at h1
  rw [b3] at h2
  obtain ⟨⟨⟨w1, w2⟩, w3⟩, w4⟩ : ((wrdB f xs = true ∧ wrdB f ys = true) ∧ xs.length = ys.length) ∧ xs ≠ ys := by
    simpa [woOk, Bool.and_eq_true] using k1
  have p1 : 0 < woX f ys xs := wo_pos w1 w2 w3 w4
  have p2 : 0 < woX f xs ys := wo_pos w2 w1 w3.symm (fun e => w4 e.symm)
  have e : woX f ys xs + woX f xs ys = woX f xs ys + woX f ys xs := Int.add_comm _ _
  rw [a1, a2, b1, b2]
  rw [e] at h2 ⊢
  generalize woX f xs ys = X at *
  generalize woX f ys xs = Y at *
  obtain ⟨S, hS⟩ : ∃ S, S = X + Y := ⟨_, rfl⟩
  rw [← hS] at h1 h2 ⊢
  have hpos : 0 < S := by omega
  have t1 : lwT X S = cutT X S ∧ lwB X S = cutB X S := by
    unfold lwOk at h1
    simp [lwT, lwB, kpT, kpB, h1]
  have t2 : lwT Y S = cutT Y S ∧ lwB Y S = cutB Y S := by
    unfold lwOk at h2
    simp [lwT, lwB, kpT, kpB, h2]
  have f1 : fracB (cutT X S) (cutB X S) = true := h1
  have f2 : fracB (cutT Y S) (cutB Y S) = true := h2
  rw [t1.1, t1.2, t2.1, t2.2]
  have c1 := cut_cross X S
  have c2 := cut_cross Y S
  have q1 := cutB_pos (a := X) hpos
  have q2 := cutB_pos (a := Y) hpos
  refine ⟨f1, f2, ?_⟩
  generalize cutT X S = p at *
  generalize cutB X S = q at *
  generalize cutT Y S = p' at *
  generalize cutB Y S = q' at *
  have hD : 0 < q * q' := Int.mul_pos q1 q2
  have hN : (p * q' + p' * q) = q * q' := by
    have h3 : (p * q' + p' * q) * S = (q * q') * S := by
      have x1 : p * q' * S = X * q * q' := by rw [Int.mul_right_comm, c1]
      have x2 : p' * q * S = Y * q' * q := by rw [Int.mul_right_comm, c2]
      rw [Int.add_mul, x1, x2, hS, Int.mul_add, Int.mul_comm (q * q') X, Int.mul_comm (q * q') Y, ← Int.mul_assoc, ← Int.mul_assoc, Int.mul_right_comm Y q' q]
    exact Int.eq_of_mul_eq_mul_right (by omega) h3
  rw [hN]
  have hc := cut_congr (a := q * q') (b := q * q') (c := 1) (d := 1) hD (by decide) (by rw [Int.mul_one, Int.one_mul])
  have h1 := cut_one 1
  unfold lwT lwB
  rw [hc.1, hc.2, h1.1, h1.2]
  decide

theorem app1_length (l : List Int) (f : Nat) : (app1 l f).length = f := by
  induction f with
  | zero => rfl
  | succ f ih => rw [app1, List.length_append, ih]; rfl
theorem flat1_length (f : Nat) (L : List (List Int)) : (flat1 f L).length = L.length * f := by
  induction L with
  | nil => simp [flat1]
  | cons l L ih => rw [flat1, List.length_append, app1_length, ih, List.length_cons, Nat.succ_mul, Nat.add_comm]
theorem flat1_app (f : Nat) (L M : List (List Int)) : flat1 f (L ++ M) = flat1 f L ++ flat1 f M := by
  induction L with
  | nil => rfl
  | cons l L ih => rw [List.cons_append, flat1, flat1, ih, List.append_assoc]
theorem flat1_take (f : Nat) (L : List (List Int)) (i : Nat) (h : i < L.length) : flat1 f (L.take (i + 1)) = flat1 f (L.take i) ++ app1 (rowAt L i) f := by
  rw [List.take_succ_eq_append_getElem h, flat1_app, rowAt_eq h]
  simp [flat1]
theorem allL_length {f : Nat} (hf : f ≤ 3) (n : Nat) : (allL f n).length ≤ 3 ^ n := by
  induction n with
  | zero => simp [allL]
  | succ n ih =>
    rw [allL, flat1_length, Nat.pow_succ]
    exact Nat.mul_le_mul ih hf
theorem allL_bd {f n : Nat} (hf : f ≤ 3) (hn : n ≤ 6) : (allL f n).length ≤ 729 :=
  Nat.le_trans (allL_length hf n) (Nat.le_trans (Nat.pow_le_pow_right (by decide) hn) (by decide))
theorem mem_app1 {l x : List Int} {f : Nat} (h : x ∈ app1 l f) : ∃ c : Nat, c < f ∧ x = l ++ [(c : Int)] := by
  induction f with
  | zero => simp [app1] at h
  | succ f ih =>
    rw [app1, List.mem_append] at h
    rcases h with h | h
    · obtain ⟨c, h1, h2⟩ := ih h
      exact ⟨c, by omega, h2⟩
    · exact ⟨f, by omega, List.mem_singleton.1 h⟩
theorem mem_flat1 {f : Nat} {L : List (List Int)} {x : List Int} (h : x ∈ flat1 f L) : ∃ l ∈ L, ∃ c : Nat, c < f ∧ x = l ++ [(c : Int)] := by
  induction L with
  | nil => simp [flat1] at h
  | cons l L ih =>
    rw [flat1, List.mem_append] at h
    rcases h with h | h
    · exact ⟨l, List.mem_cons_self .., mem_app1 h⟩
    · obtain ⟨l', h1, h2⟩ := ih h
      exact ⟨l', List.mem_cons_of_mem _ h1, h2⟩
theorem mem_allL {f n : Nat} : ∀ {x : List Int}, x ∈ allL f n → x.length = n ∧ allB x 0 ((f : Int) - 1) = true := by
  induction n with
  | zero =>
    intro x h
    rw [allL, List.mem_singleton] at h
    subst h
    exact ⟨rfl, rfl⟩
  | succ n ih =>
    intro x h
    rw [allL] at h
    obtain ⟨l, h1, c, h2, rfl⟩ := mem_flat1 h
    obtain ⟨h3, h4⟩ := ih h1
    refine ⟨by simp [h3], ?_⟩
    unfold allB at *
    rw [List.all_append, h4]
    simp [inB]
    omega
theorem row_allL {f n i : Nat} (h : i < (allL f n).length) : (rowAt (allL f n) i).length = n ∧ allB (rowAt (allL f n) i) 0 ((f : Int) - 1) = true := by
  rw [rowAt_eq h]
  exact mem_allL (List.getElem_mem h)
theorem sz_take (g : List Int → Int) (L : List (List Int)) (i : Nat) (h : i < L.length) : sz g (L.take (i + 1)) = sz g (L.take i) + g (rowAt L i) := by
  rw [List.take_succ_eq_append_getElem h, sz_append, rowAt_eq h]
  simp [sz]
theorem sz_bd {g : List Int → Int} {M : Int} (h0 : 0 ≤ M) : ∀ {L : List (List Int)}, (∀ l ∈ L, 0 ≤ g l ∧ g l ≤ M) → 0 ≤ sz g L ∧ sz g L ≤ M * L.length
  | [], _ => by simp [sz]
  | l :: L, h => by
    have h1 := h l (List.mem_cons_self ..)
    have h2 := sz_bd h0 (L := L) fun x hx => h x (List.mem_cons_of_mem _ hx)
    rw [sz, List.length_cons, Int.natCast_succ, Int.mul_add]
    omega
theorem sz_take_bd {g : List Int → Int} {M : Int} (h0 : 0 ≤ M) {L : List (List Int)} (h : ∀ l ∈ L, 0 ≤ g l ∧ g l ≤ M) (hL : L.length ≤ 729) (i : Nat) : 0 ≤ sz g (L.take i) ∧ sz g (L.take i) ≤ M * 729 := by
  have h1 := sz_bd h0 (L := L.take i) fun l hl => h l (List.mem_of_mem_take hl)
  have h2 : M * ((L.take i).length : Int) ≤ M * 729 := Int.mul_le_mul_of_nonneg_left (by simp; omega) h0
  omega
/-- The word has been shown. -/
def hitI (wd l : List Int) : Bool := decide (wd.length ≤ unt wd l) && hitB wd l (unt wd l)
/-- It is first shown at the end. -/
def fstI (wd l : List Int) : Int := if hitI wd l = true ∧ unt wd l = l.length then 1 else 0
theorem fst_atK {wd l : List Int} : fstI wd l = atK wd wd.length l := by
  unfold fstI atK
  have : (hitI wd l = true ∧ unt wd l = l.length) ↔ (unt wd l = l.length ∧ st wd l = wd.length) := by
    constructor
    · rintro ⟨h, hu⟩
      simp only [hitI, Bool.and_eq_true, decide_eq_true_eq] at h
      refine ⟨hu, st_whole.2 ?_⟩
      have := hit_ends (wd := wd) (th := l) (k := l.length) (by omega) (Nat.le_refl _)
      rw [List.take_length] at this
      rw [this, ← hu]
      exact h.2
    · rintro ⟨hu, hs⟩
      have e := st_whole.1 hs
      have hl : wd.length ≤ l.length := by
        simp only [endsB, Bool.and_eq_true, decide_eq_true_eq] at e
        exact e.1.1
      have := hit_ends (wd := wd) (th := l) hl (Nat.le_refl _)
      rw [List.take_length, e] at this
      refine ⟨?_, hu⟩
      simp only [hitI, Bool.and_eq_true, decide_eq_true_eq]
      exact ⟨by omega, by rw [hu]; exact this.symm⟩
  by_cases h : hitI wd l = true ∧ unt wd l = l.length
  · rw [if_pos h, if_pos (this.1 h)]
  · rw [if_neg h, if_neg (fun k => h (this.2 k))]
theorem fst_sum {wd : List Int} (h1 : 1 ≤ wd.length) (f n : Nat) : sz (fstI wd) (allL f n) = nth (ffO wd f n) n := by
  rw [sz_congr (h := atK wd wd.length) fun l _ => fst_atK]
  rcases n with _ | n
  · rw [allL, sz, sz, ← fst_atK]
    have hu : unt wd [] = 0 := by have := unt_le wd []; simpa using this
    have : fstI wd [] = 0 := by
      refine if_neg fun h => ?_
      have h := h.1
      simp only [hitI, Bool.and_eq_true, decide_eq_true_eq, hu] at h
      omega
    rw [this]
    rfl
  · rw [ffO_at, ffT_counts h1 f (n + 1) wd.length (Nat.le_refl _)]
theorem nth_word {f : Nat} {wd : List Int} (hw : allB wd 0 ((f : Int) - 1) = true) : ∀ k, k < wd.length → 0 ≤ nth wd k ∧ nth wd k < (f : Int) := fun k hk => by
  have := allB_nth hw hk
  omega
theorem tw_word {f n : Nat} {wd l : List Int} (hw : wrdB (f : Int) wd = true) (hn : n ≤ 6) (hl : l ∈ allL f n) : twOk (f : Int) wd l = true ∧ twV (f : Int) wd l = ovSum f (l.take (unt wd l)) wd := by
  obtain ⟨h1, h2⟩ := mem_allL hl
  have : twOk (f : Int) wd l = true := by
    unfold twOk
    rw [hw, h2]
    simp
    omega
  exact ⟨this, by rw [twV, if_pos this]⟩
/-- The team's holdings are what was paid. -/
theorem own_sum {f : Nat} {wd : List Int} (hw : wrdB (f : Int) wd = true) {n : Nat} (hn : n ≤ 6) : sz (twV (f : Int) wd) (allL f n) = sz (fun l => (unt wd l : Int)) (allL f n) := by
  obtain ⟨h1, h2, h3, h4, h5⟩ := wrd_yes hw
  have h := moreV_sum f (nth_word h5) h3 n
  have e : sz (moreV f wd) (allL f n) + sz (fun l => (unt wd l : Int)) (allL f n) = sz (twV (f : Int) wd) (allL f n) := by
    have : ∀ L : List (List Int), (∀ l ∈ L, l ∈ allL f n) → sz (moreV f wd) L + sz (fun l => (unt wd l : Int)) L = sz (twV (f : Int) wd) L := by
      intro L
      induction L with
      | nil => intro _; rfl
      | cons l L ih =>
        intro hL
        have h1 := ih fun x hx => hL x (List.mem_cons_of_mem _ hx)
        have h2 := (tw_word hw hn (hL l (List.mem_cons_self ..))).2
        rw [sz, sz, sz, h2, ← h1]
        unfold moreV
        omega
    exact this _ fun l h => h
  omega
theorem own_hit {f n : Nat} {wd l : List Int} (hw : wrdB (f : Int) wd = true) (hn : n ≤ 6) (hl : l ∈ allL f n) (h : hitI wd l = true) : twV (f : Int) wd l = wwV (f : Int) wd := by
  simp only [hitI, Bool.and_eq_true, decide_eq_true_eq] at h
  rw [(tw_word hw hn hl).2, wwV_yes hw, ovSum_hit _ h.1 (unt_le wd l) h.2]
theorem tw_bd {f n : Nat} {wd l : List Int} (hw : wrdB (f : Int) wd = true) (hn : n ≤ 6) (hl : l ∈ allL f n) : 0 ≤ twV (f : Int) wd l ∧ twV (f : Int) wd l ≤ 300000 := by
  obtain ⟨h1, h2, h3, h4, h5⟩ := wrd_yes hw
  rw [(tw_word hw hn hl).2]
  exact ovSum_bd h1 h2 _ _ h4
/-- What the law's inner loop has found going down to m. -/
def AtI (wd l : List Int) (m a : Nat) : Prop := (a = l.length ∧ ∀ j, m < j → j ≤ l.length → wd.length ≤ j → hitB wd l j = false) ∨ (m < a ∧ a ≤ l.length ∧ wd.length ≤ a ∧ hitB wd l a = true ∧ ∀ j, m < j → j < a → hitB wd l j = false)
theorem AtI.start (wd l : List Int) : AtI wd l l.length l.length := .inl ⟨rfl, fun j h1 h2 => by omega⟩
theorem AtI.le {wd l : List Int} {m a : Nat} (h : AtI wd l m a) : a ≤ l.length := by
  rcases h with ⟨h, _⟩ | ⟨_, h, _⟩ <;> omega
theorem AtI.yes {wd l : List Int} {m a : Nat} (_h : AtI wd l (m + 1) a) (hw : wd.length ≤ m + 1) (hm : m + 1 ≤ l.length) (hh : hitB wd l (m + 1) = true) : AtI wd l m (m + 1) :=
  .inr ⟨by omega, hm, hw, hh, fun j h1 h2 => by omega⟩
theorem AtI.no {wd l : List Int} {m a : Nat} (h : AtI wd l (m + 1) a) (hh : hitB wd l (m + 1) = false) : AtI wd l m a := by
  rcases h with ⟨h1, h2⟩ | ⟨h1, h2, h3, h4, h5⟩
  · refine .inl ⟨h1, fun j a1 a2 a3 => ?_⟩
    by_cases e : j = m + 1
    · rw [e]; exact hh
    · exact h2 j (by omega) a2 a3
  · refine .inr ⟨by omega, h2, h3, h4, fun j a1 a2 => ?_⟩
    by_cases e : j = m + 1
    · rw [e]; exact hh
    · exact h5 j (by omega) a2
theorem AtI.end {wd l : List Int} {m a : Nat} (h : AtI wd l m a) (hm : m < wd.length) : a = unt wd l := by
  rcases h with ⟨h1, h2⟩ | ⟨h1, h2, h3, h4, h5⟩
  · rcases unt_spec wd l with ⟨a1, a2, a3, a4⟩ | ⟨a1, a2⟩
    · rw [h2 _ (by omega) a3 a1] at a2; cases a2
    · rw [a1]; exact h1
  · exact (unt_uniq h3 h2 h4 fun j a1 a2 => h5 j (by omega) a2).symm
end Go.Proofs.Ytbgkeecndagkgaa
