/- WordOdds: the odds of two words. -/
import Derived.Test.YtbgkeecndagkgaaOv2
import Derived.Test.YtbgkeecndagkgaaFrac
namespace Go.Proofs.Ytbgkeecndagkgaa
open Go.RowKit

/-- The sum of the first powers. -/
def geo (f : Int) : Nat → Int
  | 0 => 0
  | k + 1 => geo f k + pw f (k + 1)
theorem geo_le {f : Int} (hf : 2 ≤ f) (k : Nat) : geo f k + f ≤ pw f (k + 1) := by
  induction k with
  | zero => simp [geo, pw]
  | succ k ih =>
    have h1 : pw f (k + 1) * 2 ≤ pw f (k + 1) * f := Int.mul_le_mul_of_nonneg_left hf (pw_pos (by omega) _)
    rw [pw_succ f (k + 1)]
    simp only [geo]
    omega
theorem nth_app (l : List Int) (x : Int) (k : Nat) (h : k < l.length) : nth (l ++ [x]) k = nth l k := by rw [nth_eq (by simp; omega), nth_eq h, List.getElem_append_left h]
theorem nth_last (l : List Int) (x : Int) : nth (l ++ [x]) l.length = x := by simp [nth]
theorem ovSumK_app (f : Int) (l : List Int) (x : Int) (k : Nat) (h : k ≤ l.length) : ovSumK f (l ++ [x]) k = ovSumK f l k := by
  induction k with
  | zero => rfl
  | succ k ih => rw [ovSumK_succ, ovSumK_succ, ih (by omega), nth_app _ _ _ (by omega)]
/-- The sum of the powers of the overlaps up to a length. -/
def ovS (f : Int) (xs ys : List Int) (j : Nat) : Int := ovSumK f (ovK xs ys j) (ovK xs ys j).length
theorem ovS_succ (f : Int) (xs ys : List Int) (j : Nat) : ovS f xs ys (j + 1) = ovS f xs ys j + if endsB xs ys (j + 1) then pw f (j + 1) else 0 := by
  unfold ovS
  cases h : endsB xs ys (j + 1)
  · rw [ovK_no h]; simp
  · rw [ovK_yes h, List.length_append, List.length_singleton, ovSumK_succ, ovSumK_app _ _ _ _ (Nat.le_refl _), nth_last]
    have e : ((j : Int) + 1).toNat = j + 1 := by omega
    rw [e]
    simp
theorem ovS_le {f : Int} (hf : 1 ≤ f) (xs ys : List Int) (j : Nat) : 0 ≤ ovS f xs ys j ∧ ovS f xs ys j ≤ geo f j := by
  induction j with
  | zero => simp [ovS, ovK, ovSumK, geo]
  | succ j ih =>
    have h := pw_pos (show 0 ≤ f by omega) (j + 1)
    rw [ovS_succ]
    simp only [geo]
    split <;> omega
theorem ovSum_S (f : Int) (xs ys : List Int) : ovSum f xs ys = ovS f xs ys (min xs.length ys.length) := rfl
/-- A word overlaps itself wholly, another one of its length does not. -/
theorem ov_self {f : Int} (hf : 1 ≤ f) (xs : List Int) (h1 : 1 ≤ xs.length) : pw f xs.length ≤ ovSum f xs xs := by
  obtain ⟨j, hj⟩ : ∃ j, xs.length = j + 1 := ⟨xs.length - 1, by omega⟩
  rw [ovSum_S, Nat.min_self, hj, ovS_succ]
  have h := (ovS_le hf xs xs j).1
  have he : endsB xs xs (j + 1) = true := by
    rw [ends_1 (by omega) (by omega), ← hj, Nat.sub_self, List.drop_zero, List.take_length]
    simp
  rw [he, if_pos rfl]
  omega
theorem ov_other {f : Int} (hf : 1 ≤ f) (xs ys : List Int) (h1 : 1 ≤ xs.length) (hl : xs.length = ys.length) (hne : xs ≠ ys) : 0 ≤ ovSum f xs ys ∧ ovSum f xs ys ≤ geo f (xs.length - 1) := by
  obtain ⟨j, hj⟩ : ∃ j, xs.length = j + 1 := ⟨xs.length - 1, by omega⟩
  rw [ovSum_S, ← hl, Nat.min_self, hj, ovS_succ]
  have he : endsB xs ys (j + 1) = false := by
    rw [ends_1 (by omega) (by omega), ← hj, Nat.sub_self, List.drop_zero, hl, List.take_length]
    simpa using hne
  rw [he]
  simpa using ovS_le hf xs ys j
theorem all_zero {xs ys : List Int} (hl : xs.length = ys.length) (hx : allB xs 0 0 = true) (hy : allB ys 0 0 = true) : xs = ys := by
  apply List.ext_getElem hl
  intro i h1 h2
  have a := allB_mem hx (List.getElem_mem h1)
  have b := allB_mem hy (List.getElem_mem h2)
  omega
/-- Of two other words of one length each one's surplus is greater than 0. -/
theorem wo_pos {f : Int} {xs ys : List Int} (h1 : wrdB f xs = true) (h2 : wrdB f ys = true) (hl : xs.length = ys.length) (hne : xs ≠ ys) : 0 < ovSum f xs xs - ovSum f xs ys := by
  obtain ⟨a1, a2, a3, a4, a5⟩ := wrd_yes h1
  obtain ⟨-, -, b3, b4, b5⟩ := wrd_yes h2
  have hf : 2 ≤ f := by
    rcases Int.lt_or_le f 2 with h | h
    · have : f = 1 := by omega
      subst this
      exact absurd (all_zero hl a5 b5) hne
    · exact h
  have c1 := ov_self a1 xs a3
  have c2 := ov_other a1 xs ys a3 hl hne
  have c3 := geo_le hf (xs.length - 1)
  rw [Nat.sub_add_cancel a3] at c3
  omega
theorem ovSum_bd {f : Int} (hf : 1 ≤ f) (hf6 : f ≤ 6) (xs ys : List Int) (hm : ys.length ≤ 6) : 0 ≤ ovSum f xs ys ∧ ovSum f xs ys ≤ 300000 := by
  have h := ovSumK_bd hf hf6 (ovl_nth xs ys hm) _ (Nat.le_refl _)
  have hlen : (ovl xs ys).length ≤ 6 := Nat.le_trans (ovK_length _ _ _) (by omega)
  unfold ovSum
  omega

def woOk (f : Int) (xs ys : List Int) : Bool := wrdB f xs && wrdB f ys && decide (xs.length = ys.length) && !decide (xs = ys)
def woX (f : Int) (xs ys : List Int) : Int := ovSum f ys ys - ovSum f ys xs
def woT (f : Int) (xs ys : List Int) : Int := if woOk f xs ys then lwT (woX f xs ys) (woX f xs ys + woX f ys xs) else 0
def woB (f : Int) (xs ys : List Int) : Int := if woOk f xs ys then lwB (woX f xs ys) (woX f xs ys + woX f ys xs) else 0
def woO (f : Int) (xs ys : List Int) : Bool := woOk f xs ys && lwOk (woX f xs ys) (woX f xs ys + woX f ys xs)
theorem wo_no {f : Int} {xs ys : List Int} (h : woOk f xs ys = false) : woT f xs ys = 0 ∧ woB f xs ys = 0 ∧ woO f xs ys = false := by simp [woT, woB, woO, h]
theorem wo_yes {f : Int} {xs ys : List Int} (h : woOk f xs ys = true) : woT f xs ys = lwT (woX f xs ys) (woX f xs ys + woX f ys xs) ∧ woB f xs ys = lwB (woX f xs ys) (woX f xs ys + woX f ys xs) ∧ woO f xs ys = lwOk (woX f xs ys) (woX f xs ys + woX f ys xs) := by simp [woT, woB, woO, h]

theorem implWo_no (f : Int) (A B : Option Addr) (xs ys : List Int) (c d : Nat) (w : World) (ha : Rd w A (ints xs)) (hb : Rd w B (ints ys)) (hl : xs.length ≤ 8388608) (hm : ys.length ≤ 8388608) (h : woOk f xs ys = false) :
    Calls Try.prog 15 #[.int .i64 f, .slice A xs.length c, .slice B ys.length d] w (Quietly w (.tuple #[.agg #[.int .i64 (woT f xs ys), .int .i64 (woB f xs ys)], .bool (woO f xs ys)])) := by
  rw [(wo_no h).1, (wo_no h).2.1, (wo_no h).2.2]
  have ha := ha.alloc (.cells #[.int .i64 0, .int .i64 0] 35)
  have hb := hb.alloc (.cells #[.int .i64 0, .int .i64 0] 35)
  have HB0 : Below w.heap.size w (w.alloc (.cells #[.int .i64 0, .int .i64 0] 35)) := (Below.refl _ _).alloc (Nat.le_refl _) _
  have fin : ∀ W : World, Dr (w.alloc (.cells #[.int .i64 0, .int .i64 0] 35)) W → Below w.heap.size w W := fun W hd => hd.below HB0
  cases h1 : wrdB f xs
  · clear h
    go_enter Try.func15, Try.ntmps15
    go_wp2_with (first
        | (go_at_call 25; refine (isWord_is _ _ _ _ _ (by assumption) _ (by assumption) (by omega)).mono ?_; rintro e w' ⟨rfl, rfl⟩)
        | (go_at_call 38; refine (slEqual_is _ _ _ _ _ _ _ _ _ _ (by assumption) rfl rfl (by assumption) (by assumption) (by omega) (by omega)).mono ?_; rintro e w' ⟨rfl, hd1⟩))
    exact bodyPost_ret (v := .tuple #[.agg #[.int .i64 0, .int .i64 0], .bool false]) (by simp [results, Try.results15, go_sem]) rfl ⟨rfl, (by with_reducible repeat (first | exact HB0 | refine Below.setCell ?_ (by simp) _ | exact Below.refl _ _ | refine Below.drew ?_ | refine bDrewN ?_ _ | refine Below.alloc ?_ (by simp) _))⟩
  · cases h2 : wrdB f ys
    · clear h
      go_enter Try.func15, Try.ntmps15
      go_wp2_with (first
        | (go_at_call 25; refine (isWord_is _ _ _ _ _ (by assumption) _ (by assumption) (by omega)).mono ?_; rintro e w' ⟨rfl, rfl⟩)
        | (go_at_call 38; refine (slEqual_is _ _ _ _ _ _ _ _ _ _ (by assumption) rfl rfl (by assumption) (by assumption) (by omega) (by omega)).mono ?_; rintro e w' ⟨rfl, hd1⟩))
      exact bodyPost_ret (v := .tuple #[.agg #[.int .i64 0, .int .i64 0], .bool false]) (by simp [results, Try.results15, go_sem]) rfl ⟨rfl, (by with_reducible repeat (first | exact HB0 | refine Below.setCell ?_ (by simp) _ | exact Below.refl _ _ | refine Below.drew ?_ | refine bDrewN ?_ _ | refine Below.alloc ?_ (by simp) _))⟩
    · by_cases h3 : xs.length = ys.length
      · have h4 : decide (xs = ys) = true := by simpa [woOk, h1, h2, h3] using h
        have e1 : ((xs.length : Int) != (ys.length : Int)) = false := by simp [h3]
        clear h h3
        have BX := (Bx.new w (.int .i64 0) (.int .i64 0) 35)
        go_enter Try.func15, Try.ntmps15
        go_wp2_with (go_at_call 25; refine (isWord_is _ _ _ _ _ (by assumption) _ (by assumption) (by omega)).mono ?_; rintro e w' ⟨rfl, rfl⟩)
        refine (slEqual_is _ _ _ _ _ _ _ _ _ _ h4 rfl rfl ha hb (by omega) (by omega)).mono ?_
        rintro e w1 ⟨rfl, hd1⟩
        have HB0 := fin w1 hd1
        obtain ⟨f0, f1, z0, z1, hz⟩ := BX.dr hd1
        go_wp2
        exact bodyPost_ret (v := .tuple #[.agg #[.int .i64 0, .int .i64 0], .bool false]) (by simp [results, Try.results15, go_sem, f0, f1]) rfl ⟨rfl, (by with_reducible repeat (first | exact HB0 | refine Below.setCell ?_ (by simp) _ | exact Below.refl _ _ | refine Below.drew ?_ | refine bDrewN ?_ _ | refine Below.alloc ?_ (by simp) _))⟩
      · have e1 : ((xs.length : Int) != (ys.length : Int)) = true := by simp; omega
        clear h h3
        go_enter Try.func15, Try.ntmps15
        go_wp2_with (first
        | (go_at_call 25; refine (isWord_is _ _ _ _ _ (by assumption) _ (by assumption) (by omega)).mono ?_; rintro e w' ⟨rfl, rfl⟩)
        | (go_at_call 38; refine (slEqual_is _ _ _ _ _ _ _ _ _ _ (by assumption) rfl rfl (by assumption) (by assumption) (by omega) (by omega)).mono ?_; rintro e w' ⟨rfl, hd1⟩))
        exact bodyPost_ret (v := .tuple #[.agg #[.int .i64 0, .int .i64 0], .bool false]) (by simp [results, Try.results15, go_sem]) rfl ⟨rfl, (by with_reducible repeat (first | exact HB0 | refine Below.setCell ?_ (by simp) _ | exact Below.refl _ _ | refine Below.drew ?_ | refine bDrewN ?_ _ | refine Below.alloc ?_ (by simp) _))⟩

theorem implWo_yes (f : Int) (A B : Option Addr) (xs ys : List Int) (c d : Nat) (w : World) (ha : Rd w A (ints xs)) (hb : Rd w B (ints ys)) (hl : xs.length ≤ 8388608) (hm : ys.length ≤ 8388608) (hc : xs.length ≤ c) (hd : ys.length ≤ d) (h : woOk f xs ys = true) :
    Calls Try.prog 15 #[.int .i64 f, .slice A xs.length c, .slice B ys.length d] w (Quietly w (.tuple #[.agg #[.int .i64 (woT f xs ys), .int .i64 (woB f xs ys)], .bool (woO f xs ys)])) := by
  rw [(wo_yes h).1, (wo_yes h).2.1, (wo_yes h).2.2]
  simp only [woOk, Bool.and_eq_true, decide_eq_true_eq, Bool.not_eq_true'] at h
  obtain ⟨⟨⟨h1, h2⟩, h3⟩, h4⟩ := h
  have hne : xs ≠ ys := by simpa using h4
  have e1 : ((xs.length : Int) != (ys.length : Int)) = false := by simp [h3]
  have p1 := wo_pos h1 h2 h3 hne
  have p2 := wo_pos h2 h1 h3.symm (Ne.symm hne)
  obtain ⟨b1, b2, b3, b4, -⟩ := wrd_yes h1
  have b5 : ys.length ≤ 6 := by omega
  have q1 := ovSum_bd b1 b2 xs xs b4
  have q2 := ovSum_bd b1 b2 ys ys b5
  have q3 := ovSum_bd b1 b2 xs ys b5
  have q4 := ovSum_bd b1 b2 ys xs b4
  have HX1 : woX f xs ys = ovSum f ys ys - ovSum f ys xs := rfl
  have HX2 : woX f ys xs = ovSum f xs xs - ovSum f xs ys := rfl
  rw [HX1, HX2]
  have bT := cutT_bd (a := ovSum f ys ys - ovSum f ys xs) (b := ovSum f ys ys - ovSum f ys xs + (ovSum f xs xs - ovSum f xs ys)) (by omega) (M := 1000000) (by omega) (by omega)
  clear h3 hne HX1 HX2
  have ha := ha.alloc (.cells #[.int .i64 0, .int .i64 0] 35)
  have hb := hb.alloc (.cells #[.int .i64 0, .int .i64 0] 35)
  have HBa : Below w.heap.size w (w.alloc (.cells #[.int .i64 0, .int .i64 0] 35)) := (Below.refl _ _).alloc (Nat.le_refl _) _
  have BX := (Bx.new w (.int .i64 0) (.int .i64 0) 35)
  go_enter Try.func15, Try.ntmps15
  go_wp2_with (go_at_call 25; refine (isWord_is _ _ _ _ _ (by assumption) _ (by assumption) (by omega)).mono ?_; rintro e w' ⟨rfl, rfl⟩)
  refine (slEqual_is _ _ _ _ _ _ _ _ _ _ h4 rfl rfl ha hb (by omega) (by omega)).mono ?_
  rintro e w1 ⟨rfl, hd1⟩
  have HB1 := hd1.below HBa
  have ha := ha.dr hd1
  have hb := hb.dr hd1
  have BX := BX.dr hd1
  clear h1 h2 h4
  go_wp2_with fail
  refine (overlapping_c _ _ _ _ _ _ _ _ hb hb (by omega) (by omega) (by omega) (by omega) b1 b2).mono ?_
  rintro e w2 ⟨rfl, b11⟩
  have ha := ha.below b11 (Nat.le_refl _)
  have hb := hb.below b11 (Nat.le_refl _)
  have BX := BX.below b11
  have HB2 := bUp HB1 b11 HB1.size
  go_wp2_with fail
  refine (overlapping_c _ _ _ _ _ _ _ _ hb ha (by omega) (by omega) (by omega) (by omega) b1 b2).mono ?_
  rintro e w3 ⟨rfl, b12⟩
  have ha := ha.below b12 (Nat.le_refl _)
  have hb := hb.below b12 (Nat.le_refl _)
  have BX := BX.below b12
  have HB3 := bUp HB2 b12 HB2.size
  go_wp2_with fail
  refine (overlapping_c _ _ _ _ _ _ _ _ ha ha (by omega) (by omega) (by omega) (by omega) b1 b2).mono ?_
  rintro e w4 ⟨rfl, b13⟩
  have ha := ha.below b13 (Nat.le_refl _)
  have hb := hb.below b13 (Nat.le_refl _)
  have BX := BX.below b13
  have HB4 := bUp HB3 b13 HB3.size
  go_wp2_with fail
  refine (overlapping_c _ _ _ _ _ _ _ _ ha hb (by omega) (by omega) (by omega) (by omega) b1 b2).mono ?_
  rintro e w5 ⟨rfl, b14⟩
  have ha := ha.below b14 (Nat.le_refl _)
  have hb := hb.below b14 (Nat.le_refl _)
  have BX := BX.below b14
  have HB5 := bUp HB4 b14 HB4.size
  go_wp2_with fail
  refine (lowest_c _ _ (by omega) (by omega) (by omega) (by omega) _).mono ?_
  rintro e w7 ⟨rfl, b17⟩
  have BX := BX.below b17
  have HB0 := bUp HB5 b17 HB5.size
  obtain ⟨f0, f1, z0, z1, hz⟩ := BX
  go_wp2
  exact bodyPost_ret (v := .tuple #[.agg #[.int .i64 (lwT (ovSum f ys ys - ovSum f ys xs) (ovSum f ys ys - ovSum f ys xs + (ovSum f xs xs - ovSum f xs ys))), .int .i64 (lwB (ovSum f ys ys - ovSum f ys xs) (ovSum f ys ys - ovSum f ys xs + (ovSum f xs xs - ovSum f xs ys)))], .bool (lwOk (ovSum f ys ys - ovSum f ys xs) (ovSum f ys ys - ovSum f ys xs + (ovSum f xs xs - ovSum f xs ys)))]) (by simp [results, Try.results15, go_sem, f0, f1, lwT, lwB, lwOk]) rfl ⟨rfl, (by with_reducible repeat (first | exact HB0 | refine Below.setCell ?_ (by simp) _ | exact Below.refl _ _ | refine Below.drew ?_ | refine bDrewN ?_ _ | refine Below.alloc ?_ (by simp) _))⟩
theorem implWo_c (f : Int) (A B : Option Addr) (xs ys : List Int) (c d : Nat) (w : World) (ha : Rd w A (ints xs)) (hb : Rd w B (ints ys)) (hl : xs.length ≤ 8388608) (hm : ys.length ≤ 8388608) (hc : xs.length ≤ c) (hd : ys.length ≤ d) :
    Calls Try.prog 15 #[.int .i64 f, .slice A xs.length c, .slice B ys.length d] w (Quietly w (.tuple #[.agg #[.int .i64 (woT f xs ys), .int .i64 (woB f xs ys)], .bool (woO f xs ys)])) := by
  cases h : woOk f xs ys
  · exact implWo_no f A B xs ys c d w ha hb hl hm h
  · exact implWo_yes f A B xs ys c d w ha hb hl hm hc hd h

theorem specWo_no (f : Int) (A B : Option Addr) (xs ys : List Int) (c d : Nat) (w : World) (ha : Rd w A (ints xs)) (hb : Rd w B (ints ys)) (hl : xs.length ≤ 8388608) (hm : ys.length ≤ 8388608) (h : woOk f xs ys = false) :
    Calls Try.prog 16 #[.int .i64 f, .slice A xs.length c, .slice B ys.length d] w (Quietly w (.tuple #[.agg #[.int .i64 (woT f xs ys), .int .i64 (woB f xs ys)], .bool (woO f xs ys)])) := by
  rw [(wo_no h).1, (wo_no h).2.1, (wo_no h).2.2]
  have ha := ha.alloc (.cells #[.int .i64 0, .int .i64 0] 35)
  have hb := hb.alloc (.cells #[.int .i64 0, .int .i64 0] 35)
  have HB0 : Below w.heap.size w (w.alloc (.cells #[.int .i64 0, .int .i64 0] 35)) := (Below.refl _ _).alloc (Nat.le_refl _) _
  have fin : ∀ W : World, Dr (w.alloc (.cells #[.int .i64 0, .int .i64 0] 35)) W → Below w.heap.size w W := fun W hd => hd.below HB0
  cases h1 : wrdB f xs
  · clear h
    go_enter Try.func16, Try.ntmps16
    go_wp2_with (first
        | (go_at_call 29; refine (l9Word_is _ _ _ _ _ (by assumption) _ (by assumption) (by omega)).mono ?_; rintro e w' ⟨rfl, rfl⟩)
        | (go_at_call 42; refine (l1Same_is _ _ _ _ _ _ _ _ _ _ (by assumption) rfl rfl (by assumption) (by assumption) (by omega) (by omega)).mono ?_; rintro e w' ⟨rfl, hd1⟩))
    exact bodyPost_ret (v := .tuple #[.agg #[.int .i64 0, .int .i64 0], .bool false]) (by simp [results, Try.results16, go_sem]) rfl ⟨rfl, (by with_reducible repeat (first | exact HB0 | refine Below.setCell ?_ (by simp) _ | exact Below.refl _ _ | refine Below.drew ?_ | refine bDrewN ?_ _ | refine Below.alloc ?_ (by simp) _))⟩
  · cases h2 : wrdB f ys
    · clear h
      go_enter Try.func16, Try.ntmps16
      go_wp2_with (first
        | (go_at_call 29; refine (l9Word_is _ _ _ _ _ (by assumption) _ (by assumption) (by omega)).mono ?_; rintro e w' ⟨rfl, rfl⟩)
        | (go_at_call 42; refine (l1Same_is _ _ _ _ _ _ _ _ _ _ (by assumption) rfl rfl (by assumption) (by assumption) (by omega) (by omega)).mono ?_; rintro e w' ⟨rfl, hd1⟩))
      exact bodyPost_ret (v := .tuple #[.agg #[.int .i64 0, .int .i64 0], .bool false]) (by simp [results, Try.results16, go_sem]) rfl ⟨rfl, (by with_reducible repeat (first | exact HB0 | refine Below.setCell ?_ (by simp) _ | exact Below.refl _ _ | refine Below.drew ?_ | refine bDrewN ?_ _ | refine Below.alloc ?_ (by simp) _))⟩
    · by_cases h3 : xs.length = ys.length
      · have h4 : decide (xs = ys) = true := by simpa [woOk, h1, h2, h3] using h
        have e1 : ((xs.length : Int) != (ys.length : Int)) = false := by simp [h3]
        clear h h3
        have BX := (Bx.new w (.int .i64 0) (.int .i64 0) 35)
        go_enter Try.func16, Try.ntmps16
        go_wp2_with (go_at_call 29; refine (l9Word_is _ _ _ _ _ (by assumption) _ (by assumption) (by omega)).mono ?_; rintro e w' ⟨rfl, rfl⟩)
        refine (l1Same_is _ _ _ _ _ _ _ _ _ _ h4 rfl rfl ha hb (by omega) (by omega)).mono ?_
        rintro e w1 ⟨rfl, hd1⟩
        have HB0 := fin w1 hd1
        obtain ⟨f0, f1, z0, z1, hz⟩ := BX.dr hd1
        go_wp2
        exact bodyPost_ret (v := .tuple #[.agg #[.int .i64 0, .int .i64 0], .bool false]) (by simp [results, Try.results16, go_sem, f0, f1]) rfl ⟨rfl, (by with_reducible repeat (first | exact HB0 | refine Below.setCell ?_ (by simp) _ | exact Below.refl _ _ | refine Below.drew ?_ | refine bDrewN ?_ _ | refine Below.alloc ?_ (by simp) _))⟩
      · have e1 : ((xs.length : Int) != (ys.length : Int)) = true := by simp; omega
        clear h h3
        go_enter Try.func16, Try.ntmps16
        go_wp2_with (first
        | (go_at_call 29; refine (l9Word_is _ _ _ _ _ (by assumption) _ (by assumption) (by omega)).mono ?_; rintro e w' ⟨rfl, rfl⟩)
        | (go_at_call 42; refine (l1Same_is _ _ _ _ _ _ _ _ _ _ (by assumption) rfl rfl (by assumption) (by assumption) (by omega) (by omega)).mono ?_; rintro e w' ⟨rfl, hd1⟩))
        exact bodyPost_ret (v := .tuple #[.agg #[.int .i64 0, .int .i64 0], .bool false]) (by simp [results, Try.results16, go_sem]) rfl ⟨rfl, (by with_reducible repeat (first | exact HB0 | refine Below.setCell ?_ (by simp) _ | exact Below.refl _ _ | refine Below.drew ?_ | refine bDrewN ?_ _ | refine Below.alloc ?_ (by simp) _))⟩

theorem specWo_yes (f : Int) (A B : Option Addr) (xs ys : List Int) (c d : Nat) (w : World) (ha : Rd w A (ints xs)) (hb : Rd w B (ints ys)) (hl : xs.length ≤ 8388608) (hm : ys.length ≤ 8388608) (hc : xs.length ≤ c) (hd : ys.length ≤ d) (h : woOk f xs ys = true) :
    Calls Try.prog 16 #[.int .i64 f, .slice A xs.length c, .slice B ys.length d] w (Quietly w (.tuple #[.agg #[.int .i64 (woT f xs ys), .int .i64 (woB f xs ys)], .bool (woO f xs ys)])) := by
  rw [(wo_yes h).1, (wo_yes h).2.1, (wo_yes h).2.2]
  simp only [woOk, Bool.and_eq_true, decide_eq_true_eq, Bool.not_eq_true'] at h
  obtain ⟨⟨⟨h1, h2⟩, h3⟩, h4⟩ := h
  have hne : xs ≠ ys := by simpa using h4
  have e1 : ((xs.length : Int) != (ys.length : Int)) = false := by simp [h3]
  have p1 := wo_pos h1 h2 h3 hne
  have p2 := wo_pos h2 h1 h3.symm (Ne.symm hne)
  obtain ⟨b1, b2, b3, b4, -⟩ := wrd_yes h1
  have b5 : ys.length ≤ 6 := by omega
  have q1 := ovSum_bd b1 b2 xs xs b4
  have q2 := ovSum_bd b1 b2 ys ys b5
  have q3 := ovSum_bd b1 b2 xs ys b5
  have q4 := ovSum_bd b1 b2 ys xs b4
  have HX1 : woX f xs ys = ovSum f ys ys - ovSum f ys xs := rfl
  have HX2 : woX f ys xs = ovSum f xs xs - ovSum f xs ys := rfl
  rw [HX1, HX2]
  have bT := cutT_bd (a := ovSum f ys ys - ovSum f ys xs) (b := ovSum f ys ys - ovSum f ys xs + (ovSum f xs xs - ovSum f xs ys)) (by omega) (M := 1000000) (by omega) (by omega)
  clear h3 hne HX1 HX2
  have ha := ha.alloc (.cells #[.int .i64 0, .int .i64 0] 35)
  have hb := hb.alloc (.cells #[.int .i64 0, .int .i64 0] 35)
  have HBa : Below w.heap.size w (w.alloc (.cells #[.int .i64 0, .int .i64 0] 35)) := (Below.refl _ _).alloc (Nat.le_refl _) _
  have BX := (Bx.new w (.int .i64 0) (.int .i64 0) 35)
  go_enter Try.func16, Try.ntmps16
  go_wp2_with (go_at_call 29; refine (l9Word_is _ _ _ _ _ (by assumption) _ (by assumption) (by omega)).mono ?_; rintro e w' ⟨rfl, rfl⟩)
  refine (l1Same_is _ _ _ _ _ _ _ _ _ _ h4 rfl rfl ha hb (by omega) (by omega)).mono ?_
  rintro e w1 ⟨rfl, hd1⟩
  have HB1 := hd1.below HBa
  have ha := ha.dr hd1
  have hb := hb.dr hd1
  have BX := BX.dr hd1
  clear h1 h2 h4
  go_wp2_with fail
  refine (l9Sum_c _ _ _ _ _ _ _ _ hb hb (by omega) (by omega) (by omega) (by omega) b1 b2).mono ?_
  rintro e w2 ⟨rfl, b11⟩
  have ha := ha.below b11 (Nat.le_refl _)
  have hb := hb.below b11 (Nat.le_refl _)
  have BX := BX.below b11
  have HB2 := bUp HB1 b11 HB1.size
  go_wp2_with fail
  refine (l9Sum_c _ _ _ _ _ _ _ _ hb ha (by omega) (by omega) (by omega) (by omega) b1 b2).mono ?_
  rintro e w3 ⟨rfl, b12⟩
  have ha := ha.below b12 (Nat.le_refl _)
  have hb := hb.below b12 (Nat.le_refl _)
  have BX := BX.below b12
  have HB3 := bUp HB2 b12 HB2.size
  go_wp2_with fail
  refine (l9Sum_c _ _ _ _ _ _ _ _ ha ha (by omega) (by omega) (by omega) (by omega) b1 b2).mono ?_
  rintro e w4 ⟨rfl, b13⟩
  have ha := ha.below b13 (Nat.le_refl _)
  have hb := hb.below b13 (Nat.le_refl _)
  have BX := BX.below b13
  have HB4 := bUp HB3 b13 HB3.size
  go_wp2_with fail
  refine (l9Sum_c _ _ _ _ _ _ _ _ ha hb (by omega) (by omega) (by omega) (by omega) b1 b2).mono ?_
  rintro e w5 ⟨rfl, b14⟩
  have ha := ha.below b14 (Nat.le_refl _)
  have hb := hb.below b14 (Nat.le_refl _)
  have BX := BX.below b14
  have HB5 := bUp HB4 b14 HB4.size
  go_wp2_with fail
  refine (l2Cut_c _ _ (by omega) (by omega) (by omega) (by omega) _).mono ?_
  rintro e w6 ⟨rfl, b16⟩
  have BX := BX.below b16
  have HB6 := bUp HB5 b16 HB5.size
  go_wp2_with fail
  refine (l2Kept_c _ _ (by omega) (by omega) _).mono ?_
  rintro e w7 ⟨rfl, b17⟩
  have BX := BX.below b17
  have HB0 := bUp HB6 b17 HB6.size
  obtain ⟨f0, f1, z0, z1, hz⟩ := BX
  go_wp2
  exact bodyPost_ret (v := .tuple #[.agg #[.int .i64 (lwT (ovSum f ys ys - ovSum f ys xs) (ovSum f ys ys - ovSum f ys xs + (ovSum f xs xs - ovSum f xs ys))), .int .i64 (lwB (ovSum f ys ys - ovSum f ys xs) (ovSum f ys ys - ovSum f ys xs + (ovSum f xs xs - ovSum f xs ys)))], .bool (lwOk (ovSum f ys ys - ovSum f ys xs) (ovSum f ys ys - ovSum f ys xs + (ovSum f xs xs - ovSum f xs ys)))]) (by simp [results, Try.results16, go_sem, f0, f1, lwT, lwB, lwOk]) rfl ⟨rfl, (by with_reducible repeat (first | exact HB0 | refine Below.setCell ?_ (by simp) _ | exact Below.refl _ _ | refine Below.drew ?_ | refine bDrewN ?_ _ | refine Below.alloc ?_ (by simp) _))⟩
theorem specWo_c (f : Int) (A B : Option Addr) (xs ys : List Int) (c d : Nat) (w : World) (ha : Rd w A (ints xs)) (hb : Rd w B (ints ys)) (hl : xs.length ≤ 8388608) (hm : ys.length ≤ 8388608) (hc : xs.length ≤ c) (hd : ys.length ≤ d) :
    Calls Try.prog 16 #[.int .i64 f, .slice A xs.length c, .slice B ys.length d] w (Quietly w (.tuple #[.agg #[.int .i64 (woT f xs ys), .int .i64 (woB f xs ys)], .bool (woO f xs ys)])) := by
  cases h : woOk f xs ys
  · exact specWo_no f A B xs ys c d w ha hb hl hm h
  · exact specWo_yes f A B xs ys c d w ha hb hl hm hc hd h
end Go.Proofs.Ytbgkeecndagkgaa
