/- Laws of two spreads: sums up to each spot. -/
import Derived.Test.YtgmgiedbfbdfdaaC2
namespace Go.Proofs.Ytgmgiedbfbdfdaa
open Go.RowKit

/-- The sums up to each spot. -/
def upK (xs : List Int) (k : Nat) : List Int := (List.range k).map fun i => sm (xs.take (i + 1))
theorem upK_length (xs : List Int) (k : Nat) : (upK xs k).length = k := by simp [upK]
theorem upK_succ (xs : List Int) (k : Nat) : upK xs (k + 1) = upK xs k ++ [sm (xs.take (k + 1))] := by simp [upK, List.range_succ]
theorem upK_nth (xs : List Int) (n k : Nat) (h : k < n) : nth (upK xs n) k = sm (xs.take (k + 1)) := by
  rw [nth_eq (by rw [upK_length]; exact h)]
  simp [upK]
theorem sm40 {xs : List Int} (h : allB xs 0 40 = true) (hl : xs.length ≤ 8) (k : Nat) : 0 ≤ sm (xs.take k) ∧ sm (xs.take k) ≤ 320 := by
  have h1 := sm_bd (allB_take h k)
  have h2 : (xs.take k).length ≤ 8 := by simp; omega
  omega

theorem upTo_c (A : Option Addr) (xs : List Int) (c : Nat) (w : World) (ha : Rd w A (ints xs)) (hx : allB xs 0 40 = true) (hl : xs.length ≤ 8) :
    Calls Try.prog 38 #[.slice A xs.length c] w (Row w (upK xs xs.length)) := by
  go_enter Try.func38, Try.ntmps38
  go_wp2
  go_loopw [3, 4, 10] (fun t s i wr => ∃ k : Nat, ∃ A2 c2, k ≤ xs.length ∧ i = .int .i64 k ∧ s = .int .i64 (sm (xs.take k)) ∧ t = .slice A2 k c2 ∧ Own wr w.heap.size A2 c2 (upK xs k) ∧ Below w.heap.size w wr) (fun _ _ i _ => xs.length - (intOf i).toNat)
  case atStart => exact ⟨0, _, _, by omega, rfl, rfl, rfl, Own.lit w [] (by simp), (Below.refl _ _).alloc (Nat.le_refl _) _⟩
  case round =>
    obtain ⟨wo, rfl⟩ : ∃ wo : World, wo = wr := ⟨_, rfl⟩
    obtain ⟨k, A2, c2, hk, rfl, rfl, rfl, ho, hB⟩ := hrel
    by_cases hlt : k < xs.length
    · obtain ⟨a, rfl, hca⟩ := (ha.below hB (Nat.le_refl _)).intN hlt
      have b1 := allB_nth hx hlt
      have b2 := sm40 hx hl k
      have HS := sm_succ xs k hlt
      clear hx
      go_wp2_with (at_builtin; rw [← HS]; refine wp_append1 _ _ _ rfl _ _ rfl w.heap.size A2 k c2 (upK xs k) rfl (by rw [upK_length]) ho rfl (by rw [upK_length]; omega) hB.size ?_; rw [← upK_succ]; intro A3 c3 w3 ho3 hg3 hb3; have HB3 := hB.grown hg3 hB.size ho.ge; clear hg3 hb3)
      go_roundw
      case rel => exact ⟨k + 1, A3, c3, by omega, by go_num, by rw [HS], rfl, ho3, HB3⟩
      case measure => simp [intOf] <;> omega
    · have hkn : k = xs.length := by omega
      subst hkn
      clear hx
      go_wp2
      go_ret
      exact ⟨_, _, by rw [upK_length]; rfl, ho, hB⟩

/-- Up to each of the first spots the first sum is no greater than the second one. -/
def abT (xs ys : List Int) (k : Nat) : Bool := (List.range k).all fun i => decide (sm (xs.take (i + 1)) ≤ sm (ys.take (i + 1)))
theorem abT_succ {xs ys : List Int} {k : Nat} (h : abT xs ys k = true) (hk : sm (xs.take (k + 1)) ≤ sm (ys.take (k + 1))) : abT xs ys (k + 1) = true := by
  unfold abT at *
  rw [List.range_succ, List.all_append, h]
  simpa using hk
theorem abT_no {xs ys : List Int} {k n : Nat} (hn : k < n) (hk : sm (ys.take (k + 1)) < sm (xs.take (k + 1))) : abT xs ys n = false := by
  cases h : abT xs ys n with
  | false => rfl
  | true =>
    have := List.all_eq_true.1 h k (List.mem_range.2 hn)
    simp only [decide_eq_true_eq] at this
    omega
def abV (xs ys : List Int) : Bool := alkB xs ys && abT xs ys xs.length
theorem abV_yes {xs ys : List Int} (h : alkB xs ys = true) : abV xs ys = abT xs ys xs.length := by simp [abV, h]
theorem abV_no {xs ys : List Int} (h : alkB xs ys = false) : abV xs ys = false := by simp [abV, h]

theorem specAbove_c (A B : Option Addr) (xs ys : List Int) (c d : Nat) (w : World) (ha : Rd w A (ints xs)) (hb : Rd w B (ints ys)) (hl : xs.length ≤ 16777216) (hm : ys.length ≤ 16777216) :
    Calls Try.prog 22 #[.slice A xs.length c, .slice B ys.length d] w (Quietly w (.tuple #[.bool (abV xs ys), .bool (alkB xs ys)])) := by
  by_cases h : alkB xs ys = true
  · rw [abV_yes h, h]
    obtain ⟨hx, hy, he, h1, h8⟩ := alk_bd h
    have HE := Lib.hid he
    clear he
    go_enter Try.func22, Try.ntmps22
    go_wp2_with (go_at_call 32; refine (l10Alike_is _ _ _ _ _ _ _ (by assumption) _ ha hb hl hm).mono ?_; rintro e w' ⟨rfl, rfl⟩)
    go_loop [6, 7, 8] (fun s r i => ∃ k : Nat, k ≤ xs.length ∧ i = .int .i64 k ∧ s = .int .i64 (sm (xs.take k)) ∧ r = .int .i64 (sm (ys.take k)) ∧ abT xs ys k = true) (fun _ _ i => xs.length - (intOf i).toNat)
    case atStart => exact ⟨0, by omega, rfl, rfl, rfl, rfl⟩
    case round =>
      obtain ⟨k, hk, rfl, rfl, rfl, hab⟩ := hrel
      have HA := Lib.hid hab
      clear hab
      by_cases hlt : k < xs.length
      · have hlt2 : k < ys.length := by have := HE.out; omega
        obtain ⟨a, rfl, hca⟩ := ha.intN hlt
        obtain ⟨b, rfl, hcb⟩ := hb.intN hlt2
        have b1 := allB_nth hx hlt
        have b2 := allB_nth hy hlt2
        have b3 := sm40 hx h8 k
        have b4 := sm40 hy (by have := HE.out; omega) k
        have HS := Lib.hid (sm_succ xs k hlt)
        have HT := Lib.hid (sm_succ ys k hlt2)
        clear hx hy
        by_cases hp : sm (xs.take k) + nth xs k ≤ sm (ys.take k) + nth ys k
        · have HN := Lib.hid (abT_succ HA.out (by rw [HS.out, HT.out]; exact hp))
          go_wp2
          go_round
          case rel => exact ⟨k + 1, by omega, by go_num, by rw [HS.out], by rw [HT.out], HN.out⟩
          case measure => simp [intOf] <;> omega
        · have HN := Lib.hid (abT_no (xs := xs) (ys := ys) hlt (by rw [HS.out, HT.out]; omega))
          go_wp2
          go_ret2
          exact ⟨by rw [HN.out]; rfl, Below.refl _ _⟩
      · have hkn : k = xs.length := by omega
        subst hkn
        clear hx hy
        go_wp2
        go_ret2
        exact ⟨by rw [HA.out]; rfl, Below.refl _ _⟩
  · have h' : alkB xs ys = false := by simpa using h
    rw [abV_no h', h']
    clear h
    go_enter Try.func22, Try.ntmps22
    go_wp2_with (go_at_call 32; refine (l10Alike_is _ _ _ _ _ _ _ (by assumption) _ ha hb hl hm).mono ?_; rintro e w' ⟨rfl, rfl⟩)
    go_ret2
    exact ⟨rfl, Below.refl _ _⟩

theorem implAbove_c (A B : Option Addr) (xs ys : List Int) (c d : Nat) (w : World) (ha : Rd w A (ints xs)) (hb : Rd w B (ints ys)) (hl : xs.length ≤ 16777216) (hm : ys.length ≤ 16777216) :
    Calls Try.prog 23 #[.slice A xs.length c, .slice B ys.length d] w (Quietly w (.tuple #[.bool (abV xs ys), .bool (alkB xs ys)])) := by
  by_cases h : alkB xs ys = true
  · rw [abV_yes h, h]
    obtain ⟨hx, hy, he, h1, h8⟩ := alk_bd h
    have HE := Lib.hid he
    clear he
    go_enter Try.func23, Try.ntmps23
    go_wp2_with (go_at_call 33; refine (alike_is _ _ _ _ _ _ _ (by assumption) _ ha hb hl hm).mono ?_; rintro e w' ⟨rfl, rfl⟩)
    refine (upTo_c _ _ _ _ ha hx h8).mono ?_
    rintro e w1 ⟨A1, c1, rfl, ho1, hb1⟩
    rw [upK_length]
    go_wp2_with fail
    refine (upTo_c _ _ _ _ (hb.below hb1 (Nat.le_refl _)) hy (by have := HE.out; omega)).mono ?_
    rintro e w2 ⟨A2, c2, rfl, ho2, hb2⟩
    rw [upK_length]
    have ho1 := ho1.below hb2
    have HB := bUp hb1 hb2 hb1.size
    clear hb1 hb2
    go_wp2
    go_loopw [19] (fun i wr => ∃ k : Nat, k ≤ xs.length ∧ i = .int .i64 k ∧ abT xs ys k = true ∧ Dr w2 wr) (fun i _ => xs.length - (intOf i).toNat)
    case atStart => exact ⟨0, by omega, rfl, rfl, Dr.refl w2⟩
    case round =>
      obtain ⟨k, hk, rfl, hab, hd⟩ := hrel
      have HA := Lib.hid hab
      clear hab
      by_cases hlt : k < xs.length
      · have hlt2 : k < ys.length := by have := HE.out; omega
        obtain ⟨a, rfl, hca⟩ := (ho1.dr hd).rd.intN (k := k) (by rw [upK_length]; exact hlt)
        obtain ⟨b, rfl, hcb⟩ := (ho2.dr hd).rd.intN (k := k) (by rw [upK_length]; exact hlt2)
        rw [upK_nth _ _ _ hlt] at hca
        rw [upK_nth _ _ _ hlt2] at hcb
        clear hx hy
        by_cases hp : sm (ys.take (k + 1)) < sm (xs.take (k + 1))
        · have HN := Lib.hid (abT_no (xs := xs) (ys := ys) hlt hp)
          go_wp2
          go_quiet (fail)
          go_wp2
          go_ret2
          exact ⟨by rw [HN.out]; rfl, (hd.drewN _).below HB⟩
        · have HN := Lib.hid (abT_succ HA.out (by omega))
          go_wp2
          go_quiet (fail)
          go_wp2
          go_roundw
          case rel => exact ⟨k + 1, by omega, by go_num, HN.out, hd.drewN _⟩
          case measure => simp [intOf] <;> omega
      · have hkn : k = xs.length := by omega
        subst hkn
        clear hx hy
        go_wp2
        go_ret2
        exact ⟨by rw [HA.out]; rfl, hd.below HB⟩
  · have h' : alkB xs ys = false := by simpa using h
    rw [abV_no h', h']
    clear h
    go_enter Try.func23, Try.ntmps23
    go_wp2_with (go_at_call 33; refine (alike_is _ _ _ _ _ _ _ (by assumption) _ ha hb hl hm).mono ?_; rintro e w' ⟨rfl, rfl⟩)
    go_ret2
    exact ⟨rfl, Below.refl _ _⟩

/-! EarthDistance -/
def eaI (xs ys : List Int) : Nat → Int
  | 0 => 0
  | k + 1 => eaI xs ys k + mxI (sm (xs.take (k + 1)) - sm (ys.take (k + 1))) (-(sm (xs.take (k + 1)) - sm (ys.take (k + 1))))
theorem eaI_succ (xs ys : List Int) (k : Nat) : eaI xs ys (k + 1) = eaI xs ys k + mxI (sm (xs.take (k + 1)) - sm (ys.take (k + 1))) (-(sm (xs.take (k + 1)) - sm (ys.take (k + 1)))) := rfl
theorem eaI_bd {xs ys : List Int} (hx : allB xs 0 40 = true) (hy : allB ys 0 40 = true) (hl : xs.length ≤ 8) (hl2 : ys.length ≤ 8) (k : Nat) : 0 ≤ eaI xs ys k ∧ eaI xs ys k ≤ 320 * k := by
  induction k with
  | zero => simp [eaI]
  | succ k ih =>
    have h1 := sm40 hx hl (k + 1)
    have h2 := sm40 hy hl2 (k + 1)
    rw [eaI_succ]
    unfold mxI
    split <;> omega
def eaV (xs ys : List Int) : Int := if alkB xs ys then eaI xs ys xs.length else 0
theorem eaV_yes {xs ys : List Int} (h : alkB xs ys = true) : eaV xs ys = eaI xs ys xs.length := if_pos h
theorem eaV_no {xs ys : List Int} (h : alkB xs ys = false) : eaV xs ys = 0 := by simp [eaV, h]
theorem ahead_succ {xs ys : List Int} {k : Nat} (h1 : k < xs.length) (h2 : k < ys.length) :
    sm (xs.take k) - sm (ys.take k) + nth xs k - nth ys k = sm (xs.take (k + 1)) - sm (ys.take (k + 1)) := by
  rw [sm_succ _ _ h1, sm_succ _ _ h2]
  omega

theorem mx_sub (a b : Int) : mxI (a - b) (-(a - b)) = if a - b < b - a then b - a else a - b := by
  unfold mxI
  split <;> split <;> omega
theorem l10Earth_c (A B : Option Addr) (xs ys : List Int) (c d : Nat) (w : World) (ha : Rd w A (ints xs)) (hb : Rd w B (ints ys)) (h : alkB xs ys = true) :
    Calls Try.prog 39 #[.slice A xs.length c, .slice B ys.length d] w (Pure w (.int .i64 (eaI xs ys xs.length))) := by
  obtain ⟨hx, hy, he, h1, h8⟩ := alk_bd h
  have HE := Lib.hid he
  clear he h
  go_enter Try.func39, Try.ntmps39
  go_wp2
  go_loopw [5, 6, 7] (fun s r i wr => ∃ k : Nat, k ≤ xs.length ∧ i = .int .i64 k ∧ s = .int .i64 (eaI xs ys k) ∧ r = .int .i64 (sm (xs.take k) - sm (ys.take k)) ∧ Dr w wr) (fun _ _ i _ => xs.length - (intOf i).toNat)
  case atStart => exact ⟨0, by omega, rfl, rfl, rfl, Dr.refl w⟩
  case round =>
    obtain ⟨k, hk, rfl, rfl, rfl, hd⟩ := hrel
    by_cases hlt : k < xs.length
    · have hlt2 : k < ys.length := by have := HE.out; omega
      obtain ⟨a, rfl, hca⟩ := (ha.dr hd).intN hlt
      obtain ⟨b, rfl, hcb⟩ := (hb.dr hd).intN hlt2
      have b1 := allB_nth hx hlt
      have b2 := allB_nth hy hlt2
      have b3 := sm40 hx h8 k
      have b4 := sm40 hy (by have := HE.out; omega) k
      have b5 := sm40 hx h8 (k + 1)
      have b6 := sm40 hy (by have := HE.out; omega) (k + 1)
      have b7 := eaI_bd hx hy h8 (by have := HE.out; omega) k
      have b8 := mxI_bd (a := sm (xs.take (k + 1)) - sm (ys.take (k + 1))) (b := -(sm (xs.take (k + 1)) - sm (ys.take (k + 1)))) (lo := -320) (hi := 320) (by omega) (by omega) (by omega) (by omega)
      have e1 : IntKind.i64.wrap (sm (xs.take k) - sm (ys.take k) + nth xs k) = sm (xs.take k) - sm (ys.take k) + nth xs k := IntWalk.i64_in _ (by omega)
      have e2 : IntKind.i64.wrap (sm (xs.take k) - sm (ys.take k) + nth xs k - nth ys k) = sm (xs.take (k + 1)) - sm (ys.take (k + 1)) := by rw [ahead_succ hlt hlt2]; exact IntWalk.i64_in _ (by omega)
      have HS := Lib.hid (eaI_succ xs ys k)
      clear hx hy
      go_wp2
      go_quiet (fail)
      clear e1 e2
      go_wp2_with (go_at_call 34; refine (l1Most_c _ _ _).mono ?_; rintro e w' ⟨rfl, rfl⟩)
      go_roundw
      case rel => exact ⟨k + 1, by omega, by go_num, by rw [HS.out], rfl, hd.drewN _⟩
      case measure => simp [intOf] <;> omega
    · have hkn : k = xs.length := by omega
      subst hkn
      clear hx hy
      go_wp2
      go_ret
      exact ⟨rfl, hd⟩

theorem specEarth_c (A B : Option Addr) (xs ys : List Int) (c d : Nat) (w : World) (ha : Rd w A (ints xs)) (hb : Rd w B (ints ys)) (hl : xs.length ≤ 16777216) (hm : ys.length ≤ 16777216) :
    Calls Try.prog 24 #[.slice A xs.length c, .slice B ys.length d] w (Quietly w (.tuple #[.int .i64 (eaV xs ys), .bool (alkB xs ys)])) := by
  by_cases h : alkB xs ys = true
  · have HH := Lib.hid h
    rw [eaV_yes h, h]
    go_enter Try.func24, Try.ntmps24
    go_wp2_with (first
      | (go_at_call 32; refine (l10Alike_is _ _ _ _ _ _ _ (by assumption) _ ha hb hl hm).mono ?_; rintro e w' ⟨rfl, rfl⟩)
      | (go_at_call 39; refine (l10Earth_c _ _ _ _ _ _ _ ha hb HH.out).mono ?_; rintro e w1 ⟨rfl, hd⟩))
    go_ret2
    exact ⟨rfl, hd.below (Below.refl _ _)⟩
  · have h' : alkB xs ys = false := by simpa using h
    rw [eaV_no h', h']
    clear h
    go_enter Try.func24, Try.ntmps24
    go_wp2_with (go_at_call 32; refine (l10Alike_is _ _ _ _ _ _ _ (by assumption) _ ha hb hl hm).mono ?_; rintro e w' ⟨rfl, rfl⟩)
    go_ret2
    exact ⟨rfl, Below.refl _ _⟩

theorem implEarth_c (A B : Option Addr) (xs ys : List Int) (c d : Nat) (w : World) (ha : Rd w A (ints xs)) (hb : Rd w B (ints ys)) (hl : xs.length ≤ 16777216) (hm : ys.length ≤ 16777216) :
    Calls Try.prog 25 #[.slice A xs.length c, .slice B ys.length d] w (Quietly w (.tuple #[.int .i64 (eaV xs ys), .bool (alkB xs ys)])) := by
  by_cases h : alkB xs ys = true
  · rw [eaV_yes h, h]
    obtain ⟨hx, hy, he, h1, h8⟩ := alk_bd h
    have HE := Lib.hid he
    clear he
    go_enter Try.func25, Try.ntmps25
    go_wp2_with (go_at_call 33; refine (alike_is _ _ _ _ _ _ _ (by assumption) _ ha hb hl hm).mono ?_; rintro e w' ⟨rfl, rfl⟩)
    refine (upTo_c _ _ _ _ ha hx h8).mono ?_
    rintro e w1 ⟨A1, c1, rfl, ho1, hb1⟩
    rw [upK_length]
    go_wp2_with fail
    refine (upTo_c _ _ _ _ (hb.below hb1 (Nat.le_refl _)) hy (by have := HE.out; omega)).mono ?_
    rintro e w2 ⟨A2, c2, rfl, ho2, hb2⟩
    rw [upK_length]
    have ho1 := ho1.below hb2
    have HB := bUp hb1 hb2 hb1.size
    clear hb1 hb2
    go_wp2
    go_loopw [6, 20] (fun s i wr => ∃ k : Nat, k ≤ xs.length ∧ i = .int .i64 k ∧ s = .int .i64 (eaI xs ys k) ∧ Dr w2 wr) (fun _ i _ => xs.length - (intOf i).toNat)
    case atStart => exact ⟨0, by omega, rfl, rfl, Dr.refl w2⟩
    case round =>
      obtain ⟨k, hk, rfl, rfl, hd⟩ := hrel
      by_cases hlt : k < xs.length
      · have hlt2 : k < ys.length := by have := HE.out; omega
        obtain ⟨a, rfl, hca⟩ := (ho1.dr hd).rd.intN (k := k) (by rw [upK_length]; exact hlt)
        obtain ⟨b, rfl, hcb⟩ := (ho2.dr hd).rd.intN (k := k) (by rw [upK_length]; exact hlt2)
        rw [upK_nth _ _ _ hlt] at hca
        rw [upK_nth _ _ _ hlt2] at hcb
        have b5 := sm40 hx h8 (k + 1)
        have b6 := sm40 hy (by have := HE.out; omega) (k + 1)
        have b7 := eaI_bd hx hy h8 (by have := HE.out; omega) k
        have e1 : IntKind.i64.wrap (sm (xs.take (k + 1)) - sm (ys.take (k + 1))) = sm (xs.take (k + 1)) - sm (ys.take (k + 1)) := IntWalk.i64_in _ (by omega)
        have e2 : IntKind.i64.wrap (sm (ys.take (k + 1)) - sm (xs.take (k + 1))) = sm (ys.take (k + 1)) - sm (xs.take (k + 1)) := IntWalk.i64_in _ (by omega)
        have HS := Lib.hid (eaI_succ xs ys k)
        clear hx hy
        go_wp2
        go_quiet (fail)
        go_wp2
        go_roundw
        case rel => exact ⟨k + 1, by omega, by go_num, by rw [HS.out, mx_sub], hd.drewN _⟩
        case measure => simp [intOf] <;> omega
      · have hkn : k = xs.length := by omega
        subst hkn
        clear hx hy
        go_wp2
        go_ret2
        exact ⟨rfl, hd.below HB⟩
  · have h' : alkB xs ys = false := by simpa using h
    rw [eaV_no h', h']
    clear h
    go_enter Try.func25, Try.ntmps25
    go_wp2_with (go_at_call 33; refine (alike_is _ _ _ _ _ _ _ (by assumption) _ ha hb hl hm).mono ?_; rintro e w' ⟨rfl, rfl⟩)
    go_ret2
    exact ⟨rfl, Below.refl _ _⟩
end Go.Proofs.Ytgmgiedbfbdfdaa
