/- Words and overlaps. -/
import Derived.Test.YtbgkeecndagkgaaLists
import Derived.Test.YtbgkeecndagkgaaLaws
import Derived.Test.YtbgkeecndagkgaaEq
namespace Go.Proofs.Ytbgkeecndagkgaa
open Go.RowKit

def thrB (f : Int) (xs : List Int) : Bool := inB f 1 6 && allB xs 0 (f - 1)
def wrdB (f : Int) (xs : List Int) : Bool := inB xs.length 1 6 && thrB f xs
theorem thrB_1 {f : Int} {xs : List Int} (h : inB f 1 6 = false) : thrB f xs = false := by simp [thrB, h]
theorem thrB_2 {f : Int} {xs : List Int} (h : inB f 1 6 = true) : thrB f xs = allB xs 0 (f - 1) := by simp [thrB, h]
theorem wrdB_1 {f : Int} {xs : List Int} (h : inB f 1 6 = false) : wrdB f xs = false := by simp [wrdB, thrB, h]
theorem wrdB_2 {f : Int} {xs : List Int} (h : inB xs.length 1 6 = false) : wrdB f xs = false := by simp [wrdB, h]
theorem wrdB_3 {f : Int} {xs : List Int} (h1 : inB f 1 6 = true) (h2 : inB xs.length 1 6 = true) : wrdB f xs = allB xs 0 (f - 1) := by simp [wrdB, thrB, h1, h2]
theorem wrdB_4 {f : Int} {xs : List Int} (h2 : inB xs.length 1 6 = true) : wrdB f xs = thrB f xs := by simp [wrdB, h2]
theorem wrd_yes {f : Int} {xs : List Int} (h : wrdB f xs = true) : 1 ≤ f ∧ f ≤ 6 ∧ 1 ≤ xs.length ∧ xs.length ≤ 6 ∧ allB xs 0 (f - 1) = true := by
  simp only [wrdB, thrB, Bool.and_eq_true, inB_iff] at h
  exact ⟨by omega, by omega, by omega, by omega, h.2.2⟩

theorem isDie_c (f : Int) (w : World) : Calls Try.prog 48 #[.int .i64 f] w fun e w' => e = .returned (.bool (inB f 1 6)) ∧ w = w' := by
  go_enter Try.func48, Try.ntmps48
  go_wp2_with (go_at_call 26; refine (within_c _ _ _ _).mono ?_; rintro e w' ⟨rfl, rfl⟩)
  go_ret
  exact ⟨rfl, rfl⟩
theorem isDie_is (f : Int) (q : Bool) (h : inB f 1 6 = q) (w : World) : Calls Try.prog 48 #[.int .i64 f] w fun e w' => e = .returned (.bool q) ∧ w = w' := by
  rw [← h]
  exact isDie_c f w

theorem isWord_c (f : Int) (A : Option Addr) (xs : List Int) (c : Nat) (w : World) (ha : Rd w A (ints xs)) (hl : xs.length ≤ 16777216) :
    Calls Try.prog 25 #[.int .i64 f, .slice A xs.length c] w fun e w' => e = .returned (.bool (wrdB f xs)) ∧ w = w' := by
  cases h1 : inB f 1 6
  · rw [wrdB_1 h1]
    go_enter Try.func25, Try.ntmps25
    go_wp2_with (go_at_call 48; refine (isDie_is _ _ (by assumption) _).mono ?_; rintro e w' ⟨rfl, rfl⟩)
    go_ret
    exact ⟨rfl, rfl⟩
  · have b1 := inB_iff.1 h1
    cases h2 : inB xs.length 1 6
    · rw [wrdB_2 h2]
      go_enter Try.func25, Try.ntmps25
      go_wp2_with (first
        | (go_at_call 48; refine (isDie_is _ _ (by assumption) _).mono ?_; rintro e w' ⟨rfl, rfl⟩)
        | (go_at_call 26; refine (within_is _ _ _ _ (by assumption) _).mono ?_; rintro e w' ⟨rfl, rfl⟩))
      go_ret
      exact ⟨rfl, rfl⟩
    · rw [wrdB_3 h1 h2]
      go_enter Try.func25, Try.ntmps25
      go_wp2_with (first
        | (go_at_call 48; refine (isDie_is _ _ (by assumption) _).mono ?_; rintro e w' ⟨rfl, rfl⟩)
        | (go_at_call 26; refine (within_is _ _ _ _ (by assumption) _).mono ?_; rintro e w' ⟨rfl, rfl⟩)
        | (go_at_call 37; refine (allWithin_c _ _ _ _ _ _ ha hl).mono ?_; rintro e w' ⟨rfl, rfl⟩))
      go_ret
      exact ⟨rfl, rfl⟩
theorem isWord_is (f : Int) (A : Option Addr) (xs : List Int) (c : Nat) (q : Bool) (h : wrdB f xs = q) (w : World) (ha : Rd w A (ints xs)) (hl : xs.length ≤ 16777216) :
    Calls Try.prog 25 #[.int .i64 f, .slice A xs.length c] w fun e w' => e = .returned (.bool q) ∧ w = w' := by
  rw [← h]
  exact isWord_c f A xs c w ha hl

theorem l9Throws_c (f : Int) (A : Option Addr) (xs : List Int) (c : Nat) (w : World) (ha : Rd w A (ints xs)) (hl : xs.length ≤ 16777216) :
    Calls Try.prog 39 #[.int .i64 f, .slice A xs.length c] w fun e w' => e = .returned (.bool (thrB f xs)) ∧ w = w' := by
  cases h1 : inB f 1 6
  · rw [thrB_1 h1]
    go_enter Try.func39, Try.ntmps39
    go_wp2
    go_loop [5] (fun i => ∃ k : Nat, k ≤ xs.length ∧ i = .int .i64 k) (fun i => xs.length - (intOf i).toNat)
    case atStart => exact ⟨0, by omega, rfl⟩
    case round =>
      obtain ⟨k, hk, rfl⟩ := hrel
      by_cases hlt : k < xs.length
      · obtain ⟨a, rfl, hca⟩ := ha.intN hlt
        go_wp2_with fail
        refine (l1In_c _ _ _ _).mono ?_
        rintro e w' ⟨rfl, rfl⟩
        go_wp2
        · go_ret
          exact ⟨rfl, rfl⟩
        · go_round
          case rel => exact ⟨k + 1, by omega, by go_num⟩
          case measure => simp [intOf] <;> omega
      · go_wp2_with (go_at_call 30; refine (l1In_is _ _ _ _ (by assumption) _).mono ?_; rintro e w' ⟨rfl, rfl⟩)
        go_ret
        exact ⟨rfl, rfl⟩
  · rw [thrB_2 h1]
    have b1 := inB_iff.1 h1
    go_enter Try.func39, Try.ntmps39
    go_wp2
    go_loop [5] (fun i => ∃ k : Nat, k ≤ xs.length ∧ i = .int .i64 k ∧ allB (xs.take k) 0 (f - 1) = true) (fun i => xs.length - (intOf i).toNat)
    case atStart => exact ⟨0, by omega, rfl, rfl⟩
    case round =>
      obtain ⟨k, hk, rfl, hall⟩ := hrel
      have HA := Lib.hid hall
      clear hall
      by_cases hlt : k < xs.length
      · obtain ⟨a, rfl, hca⟩ := ha.intN hlt
        cases hx : inB (nth xs k) 0 (f - 1)
        · have HN := Lib.hid (allB_no hlt hx)
          go_wp2_with (go_at_call 30; refine (l1In_is _ _ _ _ (by assumption) _).mono ?_; rintro e w' ⟨rfl, rfl⟩)
          go_ret
          exact ⟨by rw [HN.out]; rfl, rfl⟩
        · have HN := Lib.hid (allB_succ hlt HA.out hx)
          go_wp2_with (go_at_call 30; refine (l1In_is _ _ _ _ (by assumption) _).mono ?_; rintro e w' ⟨rfl, rfl⟩)
          go_round
          case rel => exact ⟨k + 1, by omega, by go_num, HN.out⟩
          case measure => simp [intOf] <;> omega
      · have HN := Lib.hid (allB_end hlt HA.out)
        go_wp2_with (go_at_call 30; refine (l1In_is _ _ _ _ (by assumption) _).mono ?_; rintro e w' ⟨rfl, rfl⟩)
        go_ret
        exact ⟨by rw [HN.out]; rfl, rfl⟩
theorem l9Throws_is (f : Int) (A : Option Addr) (xs : List Int) (c : Nat) (q : Bool) (h : thrB f xs = q) (w : World) (ha : Rd w A (ints xs)) (hl : xs.length ≤ 16777216) :
    Calls Try.prog 39 #[.int .i64 f, .slice A xs.length c] w fun e w' => e = .returned (.bool q) ∧ w = w' := by
  rw [← h]
  exact l9Throws_c f A xs c w ha hl

theorem l9Word_c (f : Int) (A : Option Addr) (xs : List Int) (c : Nat) (w : World) (ha : Rd w A (ints xs)) (hl : xs.length ≤ 16777216) :
    Calls Try.prog 29 #[.int .i64 f, .slice A xs.length c] w fun e w' => e = .returned (.bool (wrdB f xs)) ∧ w = w' := by
  cases h2 : inB xs.length 1 6
  · rw [wrdB_2 h2]
    go_enter Try.func29, Try.ntmps29
    go_wp2_with (go_at_call 30; refine (l1In_is _ _ _ _ (by assumption) _).mono ?_; rintro e w' ⟨rfl, rfl⟩)
    go_ret
    exact ⟨rfl, rfl⟩
  · rw [wrdB_4 h2]
    go_enter Try.func29, Try.ntmps29
    go_wp2_with (first
      | (go_at_call 30; refine (l1In_is _ _ _ _ (by assumption) _).mono ?_; rintro e w' ⟨rfl, rfl⟩)
      | (go_at_call 39; refine (l9Throws_c _ _ _ _ _ ha hl).mono ?_; rintro e w' ⟨rfl, rfl⟩))
    go_ret
    exact ⟨rfl, rfl⟩
theorem l9Word_is (f : Int) (A : Option Addr) (xs : List Int) (c : Nat) (q : Bool) (h : wrdB f xs = q) (w : World) (ha : Rd w A (ints xs)) (hl : xs.length ≤ 16777216) :
    Calls Try.prog 29 #[.int .i64 f, .slice A xs.length c] w fun e w' => e = .returned (.bool q) ∧ w = w' := by
  rw [← h]
  exact l9Word_c f A xs c w ha hl

/-- The last k of a list are the first k of another one. -/
def endsB (xs ys : List Int) (k : Nat) : Bool := decide (k ≤ xs.length) && decide (k ≤ ys.length) && decide (xs.drop (xs.length - k) = ys.take k)
theorem ends_1 {xs ys : List Int} {k : Nat} (h1 : k ≤ xs.length) (h2 : k ≤ ys.length) : endsB xs ys k = decide (xs.drop (xs.length - k) = ys.take k) := by simp [endsB, h1, h2]
theorem ends_2 {xs ys : List Int} {k : Nat} (h1 : ¬ k ≤ xs.length) : endsB xs ys k = false := by simp [endsB, h1]
theorem ends_3 {xs ys : List Int} {k : Nat} (h1 : ¬ k ≤ ys.length) : endsB xs ys k = false := by simp [endsB, h1]

theorem l9Ends_1 (A B : Option Addr) (xs ys : List Int) (c d k : Nat) (w : World) (ha : Rd w A (ints xs)) (hb : Rd w B (ints ys)) (hl : xs.length ≤ 16777216) (hm : ys.length ≤ 16777216)
    (hc : xs.length ≤ c) (hd : ys.length ≤ d) (h1 : k ≤ xs.length) (h2 : k ≤ ys.length) :
    Calls Try.prog 50 #[.slice A xs.length c, .slice B ys.length d, .int .i64 k] w (Pure w (.bool (endsB xs ys k))) := by
  rw [ends_1 h1 h2]
  have e1 : ((k : Int) ≤ (xs.length : Int)) := by omega
  have e2 : ((k : Int) ≤ (ys.length : Int)) := by omega
  have e3 : IntKind.i64.wrap ((xs.length : Int) - k) = (xs.length : Int) - k := IntWalk.i64_in _ (by omega)
  have e4 : 0 ≤ (xs.length : Int) - k := by omega
  have e5 : (xs.length : Int) - k ≤ (xs.length : Int) := by omega
  have e6 : ((xs.length : Int) - k).toNat = xs.length - k := by omega
  have e7 : (0 : Int) ≤ (k : Int) := by omega
  have e8 : (k : Int) ≤ (d : Int) := by omega
  have R1 := ha.cutIf hc (xs.length - k)
  have R2 := hb.takeI (k := k)
  have HL1 := Lib.hid (show xs.length - (xs.length - k) = (xs.drop (xs.length - k)).length by simp)
  have HL2 := Lib.hid (show k = (ys.take k).length by simp; omega)
  have HL3 := Lib.hid (show (xs.drop (xs.length - k)).length ≤ 16777216 by simp; omega)
  have HL4 := Lib.hid (show (ys.take k).length ≤ 16777216 by simp; omega)
  go_enter Try.func50, Try.ntmps50
  go_wp2
  go_quiet ((go_at_call 42; exact qPure (l1Same_c _ _ (xs.drop (xs.length - k)) (ys.take k) _ _ _ _ _ HL1.out HL2.out (R1.drewN _) (R2.drewN _) HL3.out HL4.out)))
  go_wp2
  all_goals
    go_ret
    exact ⟨rfl, (Dr.refl w).drewN _⟩

theorem l9Ends_2 (A B : Option Addr) (xs ys : List Int) (c d k : Nat) (w : World) (h1 : ¬ k ≤ xs.length) :
    Calls Try.prog 50 #[.slice A xs.length c, .slice B ys.length d, .int .i64 k] w (Pure w (.bool (endsB xs ys k))) := by
  rw [ends_2 h1]
  have e1 : decide (k ≤ xs.length) = false := by simp; omega
  clear h1
  go_enter Try.func50, Try.ntmps50
  go_wp2
  go_quiet (fail)
  go_wp2
  go_ret
  exact ⟨rfl, (Dr.refl w).drewN _⟩

theorem l9Ends_3 (A B : Option Addr) (xs ys : List Int) (c d k : Nat) (w : World) (h1 : k ≤ xs.length) (h2 : ¬ k ≤ ys.length) :
    Calls Try.prog 50 #[.slice A xs.length c, .slice B ys.length d, .int .i64 k] w (Pure w (.bool (endsB xs ys k))) := by
  rw [ends_3 h2]
  have e1 : decide (k ≤ xs.length) = true := by simp; omega
  have e2 : decide (k ≤ ys.length) = false := by simp; omega
  clear h1 h2
  go_enter Try.func50, Try.ntmps50
  go_wp2
  go_quiet (fail)
  go_wp2
  go_ret
  exact ⟨rfl, (Dr.refl w).drewN _⟩

theorem l9Ends_c (A B : Option Addr) (xs ys : List Int) (c d k : Nat) (w : World) (ha : Rd w A (ints xs)) (hb : Rd w B (ints ys)) (hl : xs.length ≤ 16777216) (hm : ys.length ≤ 16777216)
    (hc : xs.length ≤ c) (hd : ys.length ≤ d) :
    Calls Try.prog 50 #[.slice A xs.length c, .slice B ys.length d, .int .i64 k] w (Pure w (.bool (endsB xs ys k))) := by
  by_cases h1 : k ≤ xs.length
  · by_cases h2 : k ≤ ys.length
    · exact l9Ends_1 A B xs ys c d k w ha hb hl hm hc hd h1 h2
    · exact l9Ends_3 A B xs ys c d k w h1 h2
  · exact l9Ends_2 A B xs ys c d k w h1

/-- The overlaps up to some length. -/
def ovK (xs ys : List Int) : Nat → List Int
  | 0 => []
  | j + 1 => if endsB xs ys (j + 1) then ovK xs ys j ++ [(j : Int) + 1] else ovK xs ys j
theorem ovK_yes {xs ys : List Int} {j : Nat} (h : endsB xs ys (j + 1) = true) : ovK xs ys (j + 1) = ovK xs ys j ++ [(j : Int) + 1] := by rw [ovK, if_pos h]
theorem ovK_no {xs ys : List Int} {j : Nat} (h : endsB xs ys (j + 1) = false) : ovK xs ys (j + 1) = ovK xs ys j := by rw [ovK, if_neg (by simp [h])]
theorem ovK_length (xs ys : List Int) (j : Nat) : (ovK xs ys j).length ≤ j := by
  induction j with
  | zero => simp [ovK]
  | succ j ih =>
    rw [ovK]
    split
    · simp; omega
    · omega
theorem ovK_bd (xs ys : List Int) (j : Nat) : ∀ x ∈ ovK xs ys j, 1 ≤ x ∧ x ≤ j := by
  induction j with
  | zero => simp [ovK]
  | succ j ih =>
    intro x hx
    rw [ovK] at hx
    split at hx
    · rcases List.mem_append.1 hx with h | h
      · have := ih x h; omega
      · simp at h; omega
    · have := ih x hx; omega
def ovl (xs ys : List Int) : List Int := ovK xs ys (min xs.length ys.length)

theorem l9Overlaps_c (A B : Option Addr) (xs ys : List Int) (c d : Nat) (w : World) (ha : Rd w A (ints xs)) (hb : Rd w B (ints ys)) (hl : xs.length ≤ 8388608) (hm : ys.length ≤ 8388608)
    (hc : xs.length ≤ c) (hd : ys.length ≤ d) :
    Calls Try.prog 45 #[.slice A xs.length c, .slice B ys.length d] w (Row w (ovl xs ys)) := by
  go_enter Try.func45, Try.ntmps45
  go_wp2
  go_loopw [5, 6] (fun t i wr => ∃ j : Nat, ∃ A2 c2, j ≤ min xs.length ys.length ∧ i = .int .i64 ((j : Int) + 1) ∧ t = .slice A2 (ovK xs ys j).length c2 ∧ Own wr w.heap.size A2 c2 (ovK xs ys j) ∧ Below w.heap.size w wr) (fun _ i _ => min xs.length ys.length + 1 - (intOf i).toNat)
  case atStart => exact ⟨0, _, _, by omega, rfl, rfl, Own.lit w [] (by simp), (Below.refl _ _).alloc (Nat.le_refl _) _⟩
  case round =>
    obtain ⟨j, A2, c2, hj, rfl, rfl, ho, hB⟩ := hrel
    have hlen := ovK_length xs ys j
    by_cases hlt : j + 1 ≤ min xs.length ys.length
    · have h1 : j + 1 ≤ xs.length := by omega
      have h2 : j + 1 ≤ ys.length := by omega
      have C := l9Ends_c A B xs ys c d (j + 1) wr (ha.below hB (Nat.le_refl _)) (hb.below hB (Nat.le_refl _)) (by omega) (by omega) hc hd
      have ek : ((j + 1 : Nat) : Int) = (j : Int) + 1 := by omega
      rw [ek] at C
      clear ek
      have C := Lib.hid C
      cases he : endsB xs ys (j + 1)
      · have HN := Lib.hid (ovK_no he)
        go_wp2_with fail
        refine C.out.mono ?_
        rintro e w1 ⟨rfl, hd1⟩
        go_wp2
        go_roundw
        case rel => exact ⟨j + 1, A2, c2, by omega, by go_num, by rw [HN.out], by rw [HN.out]; exact ho.dr hd1, hd1.below hB⟩
        case measure => simp [intOf] <;> omega
      · have HN := Lib.hid (ovK_yes he)
        go_wp2_with fail
        refine C.out.mono ?_
        rintro e w1 ⟨rfl, hd1⟩
        have ho1 := ho.dr hd1
        have hB1 := hd1.below hB
        go_wp2_with (at_builtin; refine wp_append1 _ _ _ rfl _ _ rfl w.heap.size A2 (ovK xs ys j).length c2 (ovK xs ys j) rfl rfl ho1 rfl (by omega) hB1.size ?_; intro A3 c3 w3 ho3 hg3 hb3; have HB3 := hB1.grown hg3 hB1.size ho1.ge; clear hg3 hb3)
        go_roundw
        case rel => exact ⟨j + 1, A3, c3, by omega, by go_num, by rw [HN.out]; simp, by rw [HN.out]; exact ho3, HB3⟩
        case measure => simp [intOf] <;> omega
    · have hjn : j = min xs.length ys.length := by omega
      have hov : ovK xs ys j = ovl xs ys := by rw [hjn]; rfl
      rw [hov] at ho
      have HV := Lib.hid hov
      clear hov hjn
      rcases (show xs.length < j + 1 ∨ (j + 1 ≤ xs.length ∧ ys.length < j + 1) by omega) with h | ⟨h, h'⟩
      all_goals
        go_wp2
        go_ret
        exact ⟨A2, c2, by rw [← HV.out]; rfl, ho, hB⟩
end Go.Proofs.Ytbgkeecndagkgaa
