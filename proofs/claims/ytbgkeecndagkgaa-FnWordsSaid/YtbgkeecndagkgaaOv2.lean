/- Overlaps: the program's walk; the sums of powers. -/
import Derived.Test.YtbgkeecndagkgaaOv
import Derived.Test.YtbgkeecndagkgaaPow
namespace Go.Proofs.Ytbgkeecndagkgaa
open Go.RowKit

theorem overlaps_c (A B : Option Addr) (xs ys : List Int) (c d : Nat) (w : World) (ha : Rd w A (ints xs)) (hb : Rd w B (ints ys)) (hl : xs.length ≤ 8388608) (hm : ys.length ≤ 8388608)
    (hc : xs.length ≤ c) (hd : ys.length ≤ d) :
    Calls Try.prog 28 #[.slice A xs.length c, .slice B ys.length d] w (Row w (ovl xs ys)) := by
  go_enter Try.func28, Try.ntmps28
  go_wp2
  go_loopw [5, 6] (fun t i wr => ∃ j : Nat, ∃ A2 c2, j ≤ min xs.length ys.length ∧ i = .int .i64 ((j : Int) + 1) ∧ t = .slice A2 (ovK xs ys j).length c2 ∧ Own wr w.heap.size A2 c2 (ovK xs ys j) ∧ Below w.heap.size w wr) (fun _ i _ => min xs.length ys.length + 1 - (intOf i).toNat)
  case atStart => exact ⟨0, _, _, by omega, rfl, rfl, Own.lit w [] (by simp), (Below.refl _ _).alloc (Nat.le_refl _) _⟩
  case round =>
    obtain ⟨j, A2, c2, hj, rfl, rfl, ho, hB⟩ := hrel
    have hlen := ovK_length xs ys j
    by_cases hlt : j + 1 ≤ min xs.length ys.length
    · have h1 : j + 1 ≤ xs.length := by omega
      have h2 : j + 1 ≤ ys.length := by omega
      have e3 : IntKind.i64.wrap ((xs.length : Int) - (j + 1)) = (xs.length : Int) - (j + 1) := IntWalk.i64_in _ (by omega)
      have e4 : 0 ≤ (xs.length : Int) - (j + 1) := by omega
      have e5 : (xs.length : Int) - (j + 1) ≤ (xs.length : Int) := by omega
      have e6 : ((xs.length : Int) - (j + 1)).toNat = xs.length - (j + 1) := by omega
      have e7 : (0 : Int) ≤ (j : Int) + 1 := by omega
      have e8 : (j : Int) + 1 ≤ (d : Int) := by omega
      have e9 : ((j : Int) + 1).toNat = j + 1 := by omega
      have R1 := (ha.below hB (Nat.le_refl _)).cutIf hc (xs.length - (j + 1))
      have R2 := (hb.below hB (Nat.le_refl _)).takeI (k := j + 1)
      have HL1 := Lib.hid (show xs.length - (xs.length - (j + 1)) = (xs.drop (xs.length - (j + 1))).length by simp)
      have HL2 := Lib.hid (show j + 1 = (ys.take (j + 1)).length by simp; omega)
      have HL3 := Lib.hid (show (xs.drop (xs.length - (j + 1))).length ≤ 16777216 by simp; omega)
      have HL4 := Lib.hid (show (ys.take (j + 1)).length ≤ 16777216 by simp; omega)
      have e10 : (j : Int) + 1 ≤ (xs.length : Int) := by omega
      cases he : decide (xs.drop (xs.length - (j + 1)) = ys.take (j + 1))
      · have HN := Lib.hid (ovK_no (by rw [ends_1 h1 h2]; exact he))
        rcases Nat.le_total xs.length ys.length with hle | hle
        all_goals
          go_wp2
        all_goals
          go_quiet ((go_at_call 38; exact qPure (slEqual_is _ _ (xs.drop (xs.length - (j + 1))) (ys.take (j + 1)) _ _ _ _ _ _ he HL1.out HL2.out (R1.drewN _) (R2.drewN _) HL3.out HL4.out)))
          clear e3 e4 e5 e6 e7 e8 e9 e10
          go_wp2
          all_goals
            go_roundw
            case rel => exact ⟨j + 1, _, _, by omega, by go_num, by rw [HN.out], by rw [HN.out]; exact ho.drewN _, bDrewN hB _⟩
            case measure => simp [intOf] <;> omega
      · have HN := Lib.hid (ovK_yes (by rw [ends_1 h1 h2]; exact he))
        rcases Nat.le_total xs.length ys.length with hle | hle
        all_goals
          go_wp2
        all_goals
          go_quiet ((go_at_call 38; exact qPure (slEqual_is _ _ (xs.drop (xs.length - (j + 1))) (ys.take (j + 1)) _ _ _ _ _ _ he HL1.out HL2.out (R1.drewN _) (R2.drewN _) HL3.out HL4.out)))
          have ho1 := ho.drewN nq
          have hB1 := bDrewN hB nq
          clear e3 e4 e5 e6 e7 e8 e9 e10
          go_wp2_with (at_builtin; refine wp_append1 _ _ _ rfl _ _ rfl w.heap.size A2 (ovK xs ys j).length c2 (ovK xs ys j) rfl rfl ho1 rfl (by omega) hB1.size ?_; intro A3 c3 w3 ho3 hg3 hb3; have HB3 := hB1.grown hg3 hB1.size ho1.ge; clear hg3 hb3)
          all_goals
            go_roundw
            case rel => exact ⟨j + 1, A3, c3, by omega, by go_num, by rw [HN.out]; simp, by rw [HN.out]; exact ho3, HB3⟩
            case measure => simp [intOf] <;> omega
    · have hjn : j = min xs.length ys.length := by omega
      have hov : ovK xs ys j = ovl xs ys := by rw [hjn]; rfl
      rw [hov] at ho
      have HV := Lib.hid hov
      clear hov hjn
      rcases (show (xs.length ≤ ys.length ∧ xs.length < j + 1) ∨ (ys.length < xs.length ∧ ys.length < j + 1) by omega) with ⟨h, h'⟩ | ⟨h, h'⟩
      all_goals
        go_wp2
        go_ret
        exact ⟨A2, c2, by rw [← HV.out]; rfl, ho, hB⟩

def ovSumK (f : Int) (l : List Int) : Nat → Int
  | 0 => 0
  | k + 1 => ovSumK f l k + pw f (nth l k).toNat
/-- The sum of the powers of the overlaps. -/
def ovSum (f : Int) (xs ys : List Int) : Int := ovSumK f (ovl xs ys) (ovl xs ys).length
theorem ovSumK_succ (f : Int) (l : List Int) (k : Nat) : ovSumK f l (k + 1) = ovSumK f l k + pw f (nth l k).toNat := rfl
theorem ovl_nth (xs ys : List Int) (hm : ys.length ≤ 6) : ∀ k, k < (ovl xs ys).length → ∃ m : Nat, nth (ovl xs ys) k = (m : Int) ∧ m ≤ 6 := by
  intro k hk
  have h := ovK_bd xs ys (min xs.length ys.length) _ (List.getElem_mem hk)
  rw [← nth_eq hk] at h
  exact ⟨(nth (ovl xs ys) k).toNat, by omega, by omega⟩
theorem ovSumK_bd {f : Int} (hf : 1 ≤ f) (hf6 : f ≤ 6) {l : List Int} (h : ∀ k, k < l.length → ∃ m : Nat, nth l k = (m : Int) ∧ m ≤ 6) (k : Nat) (hk : k ≤ l.length) : 0 ≤ ovSumK f l k ∧ ovSumK f l k ≤ 46656 * k := by
  induction k with
  | zero => simp [ovSumK]
  | succ k ih =>
    have h1 := ih (by omega)
    obtain ⟨m, h2, h3⟩ := h k (by omega)
    have h4 := pw_bd 6 6 46656 (by decide) (show 0 ≤ f by omega) hf6 (by omega) h3
    rw [ovSumK_succ, h2, Int.toNat_natCast]
    omega

theorem l9Sum_c (f : Int) (A B : Option Addr) (xs ys : List Int) (c d : Nat) (w : World) (ha : Rd w A (ints xs)) (hb : Rd w B (ints ys)) (hl : xs.length ≤ 8388608) (hm : ys.length ≤ 6)
    (hc : xs.length ≤ c) (hd : ys.length ≤ d) (hf : 1 ≤ f) (hf6 : f ≤ 6) :
    Calls Try.prog 33 #[.int .i64 f, .slice A xs.length c, .slice B ys.length d] w (Quietly w (.int .i64 (ovSum f xs ys))) := by
  go_enter Try.func33, Try.ntmps33
  go_wp2_with fail
  refine (l9Overlaps_c _ _ _ _ _ _ _ ha hb (by omega) (by omega) hc hd).mono ?_
  rintro e w1 ⟨A1, c1, rfl, ho, hb1⟩
  have hlen : (ovl xs ys).length ≤ 6 := Nat.le_trans (ovK_length _ _ _) (by omega)
  have hmem := ovl_nth xs ys hm
  go_wp2
  go_loop [7, 9] (fun s i => ∃ k : Nat, k ≤ (ovl xs ys).length ∧ i = .int .i64 k ∧ s = .int .i64 (ovSumK f (ovl xs ys) k)) (fun _ i => (ovl xs ys).length - (intOf i).toNat)
  case atStart => exact ⟨0, by omega, rfl, rfl⟩
  case round =>
    obtain ⟨k, hk, rfl, rfl⟩ := hrel
    have b1 := ovSumK_bd hf hf6 hmem k hk
    by_cases hlt : k < (ovl xs ys).length
    · obtain ⟨a, rfl, hca⟩ := ho.rd.intN hlt
      obtain ⟨m, hm1, hm2⟩ := hmem k hlt
      have HS := Lib.hid (ovSumK_succ f (ovl xs ys) k)
      rw [hm1, Int.toNat_natCast] at HS
      rw [hm1] at hca
      have b2 := pw_bd 6 6 46656 (by decide) (show 0 ≤ f by omega) hf6 (by omega) hm2
      clear hmem hm1
      go_wp2_with fail
      refine (l5Power_c f m (by omega) (by omega) (fun i hi => (pw_bd 6 6 1000000000000 (by decide) (by omega) hf6 (by omega) (by omega)).2) _).mono ?_
      rintro e w' ⟨rfl, rfl⟩
      go_wp2
      go_round
      case rel => exact ⟨k + 1, by omega, by go_num, by rw [HS.out]⟩
      case measure => simp [intOf] <;> omega
    · have hkn : k = (ovl xs ys).length := by omega
      subst hkn
      clear hmem
      go_wp2
      go_ret
      exact ⟨rfl, hb1⟩

theorem overlapping_c (f : Int) (A B : Option Addr) (xs ys : List Int) (c d : Nat) (w : World) (ha : Rd w A (ints xs)) (hb : Rd w B (ints ys)) (hl : xs.length ≤ 8388608) (hm : ys.length ≤ 6)
    (hc : xs.length ≤ c) (hd : ys.length ≤ d) (hf : 1 ≤ f) (hf6 : f ≤ 6) :
    Calls Try.prog 32 #[.int .i64 f, .slice A xs.length c, .slice B ys.length d] w (Quietly w (.int .i64 (ovSum f xs ys))) := by
  go_enter Try.func32, Try.ntmps32
  go_wp2_with fail
  refine (overlaps_c _ _ _ _ _ _ _ ha hb (by omega) (by omega) hc hd).mono ?_
  rintro e w1 ⟨A1, c1, rfl, ho, hb1⟩
  have hlen : (ovl xs ys).length ≤ 6 := Nat.le_trans (ovK_length _ _ _) (by omega)
  have hmem := ovl_nth xs ys hm
  go_wp2
  go_loop [7, 14] (fun s i => ∃ k : Nat, k ≤ (ovl xs ys).length ∧ i = .int .i64 k ∧ s = .int .i64 (ovSumK f (ovl xs ys) k)) (fun _ i => (ovl xs ys).length - (intOf i).toNat)
  case atStart => exact ⟨0, by omega, rfl, rfl⟩
  case round =>
    obtain ⟨k, hk, rfl, rfl⟩ := hrel
    have b1 := ovSumK_bd hf hf6 hmem k hk
    by_cases hlt : k < (ovl xs ys).length
    · obtain ⟨a, rfl, hca⟩ := ho.rd.intN hlt
      obtain ⟨m, hm1, hm2⟩ := hmem k hlt
      have HS := Lib.hid (ovSumK_succ f (ovl xs ys) k)
      rw [hm1, Int.toNat_natCast] at HS
      rw [hm1] at hca
      have b2 := pw_bd 6 6 46656 (by decide) (show 0 ≤ f by omega) hf6 (by omega) hm2
      clear hmem hm1
      go_wp2_with fail
      refine (power_c f m (by omega) (by omega) (fun i hi => (pw_bd 6 6 1000000000000 (by decide) (by omega) hf6 (by omega) (by omega)).2) _).mono ?_
      rintro e w' ⟨rfl, rfl⟩
      go_wp2
      go_round
      case rel => exact ⟨k + 1, by omega, by go_num, by rw [HS.out]⟩
      case measure => simp [intOf] <;> omega
    · have hkn : k = (ovl xs ys).length := by omega
      subst hkn
      clear hmem
      go_wp2
      go_ret
      exact ⟨rfl, hb1⟩

/-! WordWait -/
def wwV (f : Int) (xs : List Int) : Int := if wrdB f xs then ovSum f xs xs else 0
theorem wwV_yes {f : Int} {xs : List Int} (h : wrdB f xs = true) : wwV f xs = ovSum f xs xs := if_pos h
theorem wwV_no {f : Int} {xs : List Int} (h : wrdB f xs = false) : wwV f xs = 0 := by simp [wwV, h]
theorem specWW_c (f : Int) (A : Option Addr) (xs : List Int) (c : Nat) (w : World) (ha : Rd w A (ints xs)) (hl : xs.length ≤ 8388608) (hc : xs.length ≤ c) :
    Calls Try.prog 9 #[.int .i64 f, .slice A xs.length c] w (Quietly w (.tuple #[.int .i64 (wwV f xs), .bool (wrdB f xs)])) := by
  cases h : wrdB f xs
  · rw [wwV_no h]
    go_enter Try.func9, Try.ntmps9
    go_wp2_with (go_at_call 29; refine (l9Word_is _ _ _ _ _ (by assumption) _ ha (by omega)).mono ?_; rintro e w' ⟨rfl, rfl⟩)
    go_ret2
    exact ⟨rfl, Below.refl _ _⟩
  · rw [wwV_yes h]
    obtain ⟨h1, h2, h3, h4, -⟩ := wrd_yes h
    go_enter Try.func9, Try.ntmps9
    go_wp2_with (first
      | (go_at_call 29; refine (l9Word_is _ _ _ _ _ (by assumption) _ ha (by omega)).mono ?_; rintro e w' ⟨rfl, rfl⟩)
      | (go_at_call 33; refine (l9Sum_c _ _ _ _ _ _ _ _ ha ha (by omega) h4 hc hc h1 h2).mono ?_; rintro e w1 ⟨rfl, hb1⟩))
    go_ret2
    exact ⟨rfl, hb1⟩
theorem implWW_c (f : Int) (A : Option Addr) (xs : List Int) (c : Nat) (w : World) (ha : Rd w A (ints xs)) (hl : xs.length ≤ 8388608) (hc : xs.length ≤ c) :
    Calls Try.prog 8 #[.int .i64 f, .slice A xs.length c] w (Quietly w (.tuple #[.int .i64 (wwV f xs), .bool (wrdB f xs)])) := by
  cases h : wrdB f xs
  · rw [wwV_no h]
    go_enter Try.func8, Try.ntmps8
    go_wp2_with (go_at_call 25; refine (isWord_is _ _ _ _ _ (by assumption) _ ha (by omega)).mono ?_; rintro e w' ⟨rfl, rfl⟩)
    go_ret2
    exact ⟨rfl, Below.refl _ _⟩
  · rw [wwV_yes h]
    obtain ⟨h1, h2, h3, h4, -⟩ := wrd_yes h
    go_enter Try.func8, Try.ntmps8
    go_wp2_with (first
      | (go_at_call 25; refine (isWord_is _ _ _ _ _ (by assumption) _ ha (by omega)).mono ?_; rintro e w' ⟨rfl, rfl⟩)
      | (go_at_call 32; refine (overlapping_c _ _ _ _ _ _ _ _ ha ha (by omega) h4 hc hc h1 h2).mono ?_; rintro e w1 ⟨rfl, hb1⟩))
    go_ret2
    exact ⟨rfl, hb1⟩

/-! OverlapsOf -/
def ooOk (f : Int) (xs ys : List Int) : Bool := wrdB f xs && wrdB f ys
def ooV (f : Int) (xs ys : List Int) : List Int := if ooOk f xs ys then ovl xs ys else []
theorem oo_1 {f : Int} {xs ys : List Int} (h : wrdB f xs = false) : ooV f xs ys = [] ∧ ooOk f xs ys = false := by simp [ooV, ooOk, h]
theorem oo_2 {f : Int} {xs ys : List Int} (h : wrdB f ys = false) : ooV f xs ys = [] ∧ ooOk f xs ys = false := by simp [ooV, ooOk, h]
theorem oo_3 {f : Int} {xs ys : List Int} (h1 : wrdB f xs = true) (h : wrdB f ys = true) : ooV f xs ys = ovl xs ys ∧ ooOk f xs ys = true := by simp [ooV, ooOk, h, h1]
theorem ooV_length (f : Int) (xs ys : List Int) : (ooV f xs ys).length ≤ xs.length := by
  unfold ooV
  split
  · exact Nat.le_trans (ovK_length _ _ _) (by omega)
  · simp
theorem implOO_c (f : Int) (A B : Option Addr) (xs ys : List Int) (c d : Nat) (w : World) (ha : Rd w A (ints xs)) (hb : Rd w B (ints ys)) (hl : xs.length ≤ 8388608) (hm : ys.length ≤ 8388608) (hc : xs.length ≤ c) (hd : ys.length ≤ d) :
    Calls Try.prog 17 #[.int .i64 f, .slice A xs.length c, .slice B ys.length d] w (Gives w (ooV f xs ys) (ooOk f xs ys)) := by
  cases h1 : wrdB f xs
  · rw [(oo_1 h1).1, (oo_1 h1).2]
    go_enter Try.func17, Try.ntmps17
    go_wp2_with (go_at_call 25; refine (isWord_is _ _ _ _ _ (by assumption) _ (by assumption) (by omega)).mono ?_; rintro e w' ⟨rfl, rfl⟩)
    go_ret2
    exact ⟨none, 0, rfl, Own.nil _ _, Below.refl _ _⟩
  · cases h2 : wrdB f ys
    · rw [(oo_2 h2).1, (oo_2 h2).2]
      go_enter Try.func17, Try.ntmps17
      go_wp2_with (go_at_call 25; refine (isWord_is _ _ _ _ _ (by assumption) _ (by assumption) (by omega)).mono ?_; rintro e w' ⟨rfl, rfl⟩)
      go_ret2
      exact ⟨none, 0, rfl, Own.nil _ _, Below.refl _ _⟩
    · rw [(oo_3 h1 h2).1, (oo_3 h1 h2).2]
      go_enter Try.func17, Try.ntmps17
      go_wp2_with (first
        | (go_at_call 25; refine (isWord_is _ _ _ _ _ (by assumption) _ (by assumption) (by omega)).mono ?_; rintro e w' ⟨rfl, rfl⟩)
        | (go_at_call 28; refine (overlaps_c _ _ _ _ _ _ _ ha hb hl hm hc hd).mono ?_; rintro e w1 ⟨A1, c1, rfl, ho1, hb1⟩))
      go_ret2
      exact ⟨A1, c1, rfl, ho1, hb1⟩
theorem specOO_c (f : Int) (A B : Option Addr) (xs ys : List Int) (c d : Nat) (w : World) (ha : Rd w A (ints xs)) (hb : Rd w B (ints ys)) (hl : xs.length ≤ 8388608) (hm : ys.length ≤ 8388608) (hc : xs.length ≤ c) (hd : ys.length ≤ d) :
    Calls Try.prog 18 #[.int .i64 f, .slice A xs.length c, .slice B ys.length d] w (Gives w (ooV f xs ys) (ooOk f xs ys)) := by
  cases h1 : wrdB f xs
  · rw [(oo_1 h1).1, (oo_1 h1).2]
    go_enter Try.func18, Try.ntmps18
    go_wp2_with (go_at_call 29; refine (l9Word_is _ _ _ _ _ (by assumption) _ (by assumption) (by omega)).mono ?_; rintro e w' ⟨rfl, rfl⟩)
    go_ret2
    exact ⟨_, _, rfl, Own.lit w [] (by simp), (Below.refl _ _).alloc (Nat.le_refl _) _⟩
  · cases h2 : wrdB f ys
    · rw [(oo_2 h2).1, (oo_2 h2).2]
      go_enter Try.func18, Try.ntmps18
      go_wp2_with (go_at_call 29; refine (l9Word_is _ _ _ _ _ (by assumption) _ (by assumption) (by omega)).mono ?_; rintro e w' ⟨rfl, rfl⟩)
      go_ret2
      exact ⟨_, _, rfl, Own.lit w [] (by simp), (Below.refl _ _).alloc (Nat.le_refl _) _⟩
    · rw [(oo_3 h1 h2).1, (oo_3 h1 h2).2]
      go_enter Try.func18, Try.ntmps18
      go_wp2_with (first
        | (go_at_call 29; refine (l9Word_is _ _ _ _ _ (by assumption) _ (by assumption) (by omega)).mono ?_; rintro e w' ⟨rfl, rfl⟩)
        | (go_at_call 45; refine (l9Overlaps_c _ _ _ _ _ _ _ ha hb hl hm hc hd).mono ?_; rintro e w1 ⟨A1, c1, rfl, ho1, hb1⟩))
      go_ret2
      exact ⟨A1, c1, rfl, ho1, hb1⟩
end Go.Proofs.Ytbgkeecndagkgaa
