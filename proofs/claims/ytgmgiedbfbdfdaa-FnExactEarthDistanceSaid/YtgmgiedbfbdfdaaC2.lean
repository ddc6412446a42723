/- Laws of two spreads: distances, order. (In part written by gen_c2.py.) -/
import Derived.Test.YtgmgiedbfbdfdaaAlk
import Derived.Test.YtgmgiedbfbdfdaaCopy
namespace Go.Proofs.Ytgmgiedbfbdfdaa
open Go.RowKit

/-- The distance over the first spots. -/
def dsI (xs ys : List Int) : Nat → Int
  | 0 => 0
  | k + 1 => dsI xs ys k + mxI (nth xs k - nth ys k) 0
theorem dsI_succ (xs ys : List Int) (k : Nat) : dsI xs ys (k + 1) = dsI xs ys k + mxI (nth xs k - nth ys k) 0 := rfl
theorem dsI_bd {xs ys : List Int} (hx : allB xs 0 40 = true) (hy : allB ys 0 40 = true) (hl : xs.length = ys.length) (k : Nat) (hk : k ≤ xs.length) : 0 ≤ dsI xs ys k ∧ dsI xs ys k ≤ 40 * k := by
  induction k with
  | zero => simp [dsI]
  | succ k ih =>
    have h1 := allB_nth hx (k := k) (by omega)
    have h2 := allB_nth hy (k := k) (by omega)
    have h3 := ih (by omega)
    have h4 := mxI_bd (a := nth xs k - nth ys k) (b := 0) (lo := -40) (hi := 40) (by omega) (by omega) (by omega) (by omega)
    have h5 : 0 ≤ mxI (nth xs k - nth ys k) 0 := by unfold mxI; split <;> omega
    rw [dsI_succ]
    omega
def dsV (xs ys : List Int) : Int := if alkB xs ys then dsI xs ys xs.length else 0
theorem dsV_yes {xs ys : List Int} (h : alkB xs ys = true) : dsV xs ys = dsI xs ys xs.length := if_pos h
theorem dsV_no {xs ys : List Int} (h : alkB xs ys = false) : dsV xs ys = 0 := by simp [dsV, h]
/-- What alike spreads are like. -/
theorem alk_bd {xs ys : List Int} (h : alkB xs ys = true) : allB xs 0 40 = true ∧ allB ys 0 40 = true ∧ xs.length = ys.length ∧ 1 ≤ xs.length ∧ xs.length ≤ 8 := by
  have h1 := alk_yes h
  have h2 := sprB_yes h1.1
  have h3 := sprB_yes h1.2.1
  exact ⟨h2.2.2.1, h3.2.2.1, h1.2.2.1, h2.1, h2.2.1⟩

theorem implDist_c (A B : Option Addr) (xs ys : List Int) (c d : Nat) (w : World) (ha : Rd w A (ints xs)) (hb : Rd w B (ints ys)) (hl : xs.length ≤ 16777216) (hm : ys.length ≤ 16777216) :
    Calls Try.prog 17 #[.slice A xs.length c, .slice B ys.length d] w (Quietly w (.tuple #[.int .i64 (dsV xs ys), .bool (alkB xs ys)])) := by
  by_cases h : alkB xs ys = true
  · rw [dsV_yes h, h]
    obtain ⟨hx, hy, he, h1, h8⟩ := alk_bd h
    have HE := Lib.hid he
    clear he
    go_enter Try.func17, Try.ntmps17
    go_wp2_with (go_at_call 33; refine (alike_is _ _ _ _ _ _ _ (by assumption) _ ha hb hl hm).mono ?_; rintro e w' ⟨rfl, rfl⟩)
    go_loop [6, 15] (fun s i => ∃ k : Nat, k ≤ xs.length ∧ i = .int .i64 k ∧ s = .int .i64 (dsI xs ys k)) (fun _ i => xs.length - (intOf i).toNat)
    case atStart => exact ⟨0, by omega, rfl, rfl⟩
    case round =>
      obtain ⟨k, hk, rfl, rfl⟩ := hrel
      by_cases hlt : k < xs.length
      · have hlt2 : k < ys.length := by have := HE.out; omega
        obtain ⟨a, rfl, hca⟩ := ha.intN hlt
        obtain ⟨b, rfl, hcb⟩ := hb.intN hlt2
        have b1 := allB_nth hx hlt
        have b2 := allB_nth hy hlt2
        have b3 := dsI_bd hx hy HE.out k hk
        have HS := Lib.hid (dsI_succ xs ys k)
        clear hx hy
        by_cases hp : 0 < nth xs k - nth ys k
        · have HM := Lib.hid (mxI_l hp)
          go_wp2
          go_round
          case rel => exact ⟨k + 1, by omega, by go_num, by rw [HS.out, HM.out]⟩
          case measure => simp [intOf] <;> omega
        · have HM := Lib.hid (mxI_r hp)
          go_wp2
          all_goals
            go_round
            case rel => exact ⟨k + 1, by omega, by go_num, by rw [HS.out, HM.out]; go_num⟩
            case measure => simp [intOf] <;> omega
      · have hkn : k = xs.length := by omega
        subst hkn
        clear hx hy
        go_wp2
        go_ret2
        exact ⟨rfl, Below.refl _ _⟩
  · have h' : alkB xs ys = false := by simpa using h
    rw [dsV_no h', h']
    clear h
    go_enter Try.func17, Try.ntmps17
    go_wp2_with (go_at_call 33; refine (alike_is _ _ _ _ _ _ _ (by assumption) _ ha hb hl hm).mono ?_; rintro e w' ⟨rfl, rfl⟩)
    go_ret2
    exact ⟨rfl, Below.refl _ _⟩

theorem specDist_c (A B : Option Addr) (xs ys : List Int) (c d : Nat) (w : World) (ha : Rd w A (ints xs)) (hb : Rd w B (ints ys)) (hl : xs.length ≤ 16777216) (hm : ys.length ≤ 16777216) :
    Calls Try.prog 16 #[.slice A xs.length c, .slice B ys.length d] w (Quietly w (.tuple #[.int .i64 (dsV xs ys), .bool (alkB xs ys)])) := by
  by_cases h : alkB xs ys = true
  · rw [dsV_yes h, h]
    obtain ⟨hx, hy, he, h1, h8⟩ := alk_bd h
    have HE := Lib.hid he
    clear he
    go_enter Try.func16, Try.ntmps16
    go_wp2_with (go_at_call 32; refine (l10Alike_is _ _ _ _ _ _ _ (by assumption) _ ha hb hl hm).mono ?_; rintro e w' ⟨rfl, rfl⟩)
    go_loopw [6, 7] (fun s i wr => ∃ k : Nat, k ≤ xs.length ∧ i = .int .i64 k ∧ s = .int .i64 (dsI xs ys k) ∧ Dr w wr) (fun _ i _ => xs.length - (intOf i).toNat)
    case atStart => exact ⟨0, by omega, rfl, rfl, Dr.refl w⟩
    case round =>
      obtain ⟨k, hk, rfl, rfl, hd⟩ := hrel
      by_cases hlt : k < xs.length
      · have hlt2 : k < ys.length := by have := HE.out; omega
        obtain ⟨a, rfl, hca⟩ := (ha.dr hd).intN hlt
        obtain ⟨b, rfl, hcb⟩ := (hb.dr hd).intN hlt2
        have b1 := allB_nth hx hlt
        have b2 := allB_nth hy hlt2
        have b3 := dsI_bd hx hy HE.out k hk
        have b4 := mxI_bd (a := nth xs k - nth ys k) (b := 0) (lo := -40) (hi := 40) (by omega) (by omega) (by omega) (by omega)
        have HS := Lib.hid (dsI_succ xs ys k)
        have e1 : IntKind.i64.wrap (nth xs k - nth ys k) = nth xs k - nth ys k := IntWalk.i64_in _ (by omega)
        have e2 : IntKind.i64.wrap (dsI xs ys k + mxI (nth xs k - nth ys k) 0) = dsI xs ys k + mxI (nth xs k - nth ys k) 0 := IntWalk.i64_in _ (by omega)
        clear hx hy
        go_wp2
        go_quiet ((go_at_call 34; exact qSame (l1Most_c _ _ _)))
        go_wp2
        go_roundw
        case rel => exact ⟨k + 1, by omega, by go_num, by rw [HS.out], hd.drewN _⟩
        case measure => simp [intOf] <;> omega
      · have hkn : k = xs.length := by omega
        subst hkn
        clear hx hy
        go_wp2
        go_ret2
        exact ⟨rfl, hd.below (Below.refl _ _)⟩
  · have h' : alkB xs ys = false := by simpa using h
    rw [dsV_no h', h']
    clear h
    go_enter Try.func16, Try.ntmps16
    go_wp2_with (go_at_call 32; refine (l10Alike_is _ _ _ _ _ _ _ (by assumption) _ ha hb hl hm).mono ?_; rintro e w' ⟨rfl, rfl⟩)
    go_ret2
    exact ⟨rfl, Below.refl _ _⟩
theorem lawDist (A0 : Option Addr) (xs0 : List Int) (c0 : Nat) (A1 : Option Addr) (xs1 : List Int) (c1 : Nat) (w : World) (ha0 : Rd w A0 (ints xs0)) (ha1 : Rd w A1 (ints xs1)) :
    Calls Try.prog 5 #[.slice A0 xs0.length c0, .slice A1 xs1.length c1] w fun e w' => e = .returned (.bool true) ∧ Below w.heap.size w w' := by
  by_cases hl0 : 1048576 < xs0.length
  · go_enter Try.func5, Try.ntmps5
    go_wp2
    go_ret
    exact ⟨rfl, Below.refl _ _⟩
  by_cases hl1 : 1048576 < xs1.length
  · go_enter Try.func5, Try.ntmps5
    go_wp2
    go_ret
    exact ⟨rfl, Below.refl _ _⟩
  go_enter Try.func5, Try.ntmps5
  have HB0 : Below w.heap.size w w := Below.refl _ _
  go_wp2_with fail
  refine (toIntS_c _ _ _ _ (ha0.below HB0 (Nat.le_refl _)) (by omega)).mono ?_
  rintro e w1 ⟨rfl, os0, b1⟩
  have ge_s0 := fun k hk => Nat.le_trans HB0.size (os0.ge k hk)
  have HB2 := bUp HB0 b1 HB0.size
  go_wp2_with fail
  refine (toIntS_c _ _ _ _ (ha1.below HB2 (Nat.le_refl _)) (by omega)).mono ?_
  rintro e w3 ⟨rfl, os1, b3⟩
  have ap_s0_s1 := os0.apart os1 (Nat.le_refl _)
  have ap_s1_s0 := os0.apartR os1 (Nat.le_refl _)
  have ge_s1 := fun k hk => Nat.le_trans HB2.size (os1.ge k hk)
  have HB4 := bUp HB2 b3 HB2.size
  have os0_4 := os0.below b3
  clear os0
  go_wp2_with fail
  refine (specDist_c _ _ _ _ _ _ _ os0_4.rd os1.rd (by omega) (by omega)).mono ?_
  rintro e w5 ⟨rfl, b5⟩
  have HB6 := bUp HB4 b5 HB4.size
  have os0_6 := os0_4.below b5
  clear os0_4
  have os1_6 := os1.below b5
  clear os1
  clear os0_6
  clear os1_6
  go_wp2_with fail
  refine (toIntS_c _ _ _ _ (ha0.below HB6 (Nat.le_refl _)) (by omega)).mono ?_
  rintro e w7 ⟨rfl, ox0, b7⟩
  have ge_x0 := fun k hk => Nat.le_trans HB6.size (ox0.ge k hk)
  have HB8 := bUp HB6 b7 HB6.size
  go_wp2_with fail
  refine (toIntS_c _ _ _ _ (ha1.below HB8 (Nat.le_refl _)) (by omega)).mono ?_
  rintro e w9 ⟨rfl, ox1, b9⟩
  have ap_x0_x1 := ox0.apart ox1 (Nat.le_refl _)
  have ap_x1_x0 := ox0.apartR ox1 (Nat.le_refl _)
  have ge_x1 := fun k hk => Nat.le_trans HB8.size (ox1.ge k hk)
  have HB10 := bUp HB8 b9 HB8.size
  have ox0_10 := ox0.below b9
  clear ox0
  go_wp2_with fail
  refine (implDist_c _ _ _ _ _ _ _ ox0_10.rd ox1.rd (by omega) (by omega)).mono ?_
  rintro e w11 ⟨rfl, b11⟩
  have HB12 := bUp HB10 b11 HB10.size
  have ox0_12 := ox0_10.below b11
  clear ox0_10
  have ox1_12 := ox1.below b11
  clear ox1
  go_wp2_with fail
  refine (toIntS_c _ _ _ _ (ha0.below HB12 (Nat.le_refl _)) (by omega)).mono ?_
  rintro e w13 ⟨rfl, oy0, b13⟩
  have ap_x0_y0 := ox0_12.apart oy0 (Nat.le_refl _)
  have ap_y0_x0 := ox0_12.apartR oy0 (Nat.le_refl _)
  have ap_x1_y0 := ox1_12.apart oy0 (Nat.le_refl _)
  have ap_y0_x1 := ox1_12.apartR oy0 (Nat.le_refl _)
  have ge_y0 := fun k hk => Nat.le_trans HB12.size (oy0.ge k hk)
  have HB14 := bUp HB12 b13 HB12.size
  have ox0_14 := ox0_12.below b13
  clear ox0_12
  have ox1_14 := ox1_12.below b13
  clear ox1_12
  go_wp2_with fail
  refine (eqIntS_c _ _ _ _ _ _ _ ox0_14.rd oy0.rd (by omega) (by omega)).mono ?_
  rintro e w15 ⟨rfl, n15, rfl⟩
  have HB16 := bDrewN HB14 n15
  have ox0_16 := ox0_14.drewN n15
  clear ox0_14
  have ox1_16 := ox1_14.drewN n15
  clear ox1_14
  have oy0_16 := oy0.drewN n15
  clear oy0
  clear oy0_16
  go_wp2_with fail
  refine (toIntS_c _ _ _ _ (ha1.below HB16 (Nat.le_refl _)) (by omega)).mono ?_
  rintro e w17 ⟨rfl, oy1, b17⟩
  have ap_x0_y1 := ox0_16.apart oy1 (Nat.le_refl _)
  have ap_y1_x0 := ox0_16.apartR oy1 (Nat.le_refl _)
  have ap_x1_y1 := ox1_16.apart oy1 (Nat.le_refl _)
  have ap_y1_x1 := ox1_16.apartR oy1 (Nat.le_refl _)
  have ge_y1 := fun k hk => Nat.le_trans HB16.size (oy1.ge k hk)
  have HB18 := bUp HB16 b17 HB16.size
  have ox0_18 := ox0_16.below b17
  clear ox0_16
  have ox1_18 := ox1_16.below b17
  clear ox1_16
  go_wp2_with fail
  refine (eqIntS_c _ _ _ _ _ _ _ ox1_18.rd oy1.rd (by omega) (by omega)).mono ?_
  rintro e w19 ⟨rfl, n19, rfl⟩
  have HB20 := bDrewN HB18 n19
  have ox0_20 := ox0_18.drewN n19
  clear ox0_18
  have ox1_20 := ox1_18.drewN n19
  clear ox1_18
  have oy1_20 := oy1.drewN n19
  clear oy1
  clear oy1_20
  go_wp2
  go_ret
  exact ⟨rfl, by first | exact HB20 | (simpa using HB20)⟩
end Go.Proofs.Ytgmgiedbfbdfdaa
