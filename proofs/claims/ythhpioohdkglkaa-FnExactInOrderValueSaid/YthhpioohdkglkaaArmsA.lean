/- Several arms: whether they can be played. -/
import Derived.Test.YthhpioohdkglkaaPlayL
import Derived.Test.YthhpioohdkglkaaLvB
namespace Go.Proofs.Ythhpioohdkglkaa
open Go.RowKit

theorem RdMs.rdM {w : World} {L : List Mkd} {k : Nat} {A1 A2 A3 : Option Addr} (hm : (mAt L k).P.length ≤ 1048576 ∧ (mAt L k).W.length ≤ 1048576 ∧ (mAt L k).F.length ≤ 1048576) (r1 : Rd w A1 (ints (mAt L k).P)) (r2 : Rd w A2 (ints (mAt L k).W)) (r3 : Rd w A3 (ints (mAt L k).F)) :
    RdM w A1 (mAt L k).P A2 (mAt L k).W A3 (mAt L k).F := ⟨r1, r2, r3, by omega, by omega, by omega⟩
set_option maxRecDepth 20000 in
set_option maxHeartbeats 2000000 in
theorem areArms_is (A : Option Addr) (L : List Mkd) (c : Nat) (a b : Int) (q : Bool) (hq : armsB L a b = q) (w : World) (h : RdMs w A L) (hs : SzMs L) :
    Calls Try.prog 24 #[.slice A L.length c, .int .i64 a, .int .i64 b] w (Quietly w (.bool q)) := by
  have hn := hs.1
  have HR := Lib.hid hs.2
  clear hs
  by_cases h3 : L.length ≤ 3
  · have g3 : ¬ (3 : Int) < (L.length : Int) := by omega
    cases hd : discB a b
    · rw [armsB_disc hd] at hq
      subst hq
      go_enter Try.func24, Try.ntmps24
      go_wp2_with fail
      refine (isDiscount_is a b _ hd _).mono ?_
      rintro e w2 ⟨rfl, rfl⟩
      go_wp2
      go_ret
      exact ⟨rfl, Below.refl _ _⟩
    · go_enter Try.func24, Try.ntmps24
      go_wp2_with fail
      refine (isDiscount_is a b _ hd _).mono ?_
      rintro e w2 ⟨rfl, rfl⟩
      go_wp2_with fail
      go_loopw [7, 21] (fun p i wr => ∃ k : Nat, k ≤ L.length ∧ i = .int .i64 (k : Int) ∧ p = .int .i64 (hgts L k) ∧ (∀ j, j < k → okAt L j = true) ∧ Below w.heap.size w wr) (fun _ i _ => L.length - (intOf i).toNat)
      case atStart => exact ⟨0, by omega, rfl, rfl, (fun j hj => by omega), Below.refl _ _⟩
      case round =>
        obtain ⟨v, rfl⟩ : ∃ v : World, v = wr := ⟨_, rfl⟩
        obtain ⟨k, hk, rfl, rfl, hok, HB⟩ := hrel
        have hh := hgts_bd k hok
        have HO := Lib.hid hok
        clear hok
        by_cases hlt : k < L.length
        · obtain ⟨ad, A1, c1, A2, c2, A3, c3, rfl, q1, q2, q3, r1, r2, r3⟩ := (h.below HB (Nat.le_refl _)) k hlt
          have hm := HR.out k hlt
          have q2' := cellOff 1 (by omega) q2
          have q3' := cellOff 2 (by omega) q3
          have rm := RdMs.rdM hm r1 r2 r3
          cases ha : okAt L k
          · have hno := armAll_no hlt ha
            rw [armsB_arm hno] at hq
            subst hq
            go_wp2_with fail
            refine (implArm_is _ _ _ _ _ _ _ _ _ _ ha _ (rm.below (Below.alloc (Below.refl _ _) (Nat.le_refl _) _) (Nat.le_refl _))).mono ?_
            rintro e w5 ⟨rfl, b5⟩
            go_wp2
            go_ret
            exact ⟨rfl, bUp (HB.alloc HB.size _) b5 (HB.alloc HB.size _).size⟩
          · have hok := armB_iff.1 ha
            have hpar := hok.tree.par
            have hn1 := hok.tree.n1
            have hn2 := hok.tree.n2
            have h4 := hok.h4
            have h0 := hgt_bd (mAt L k).P
            have by1 := Bx3.new v (.slice A1 (mAt L k).P.length c1) (.slice A2 (mAt L k).W.length c2) (.slice A3 (mAt L k).F.length c3) 39
            have HB1 : Below w.heap.size w (v.alloc (.cells #[.slice A1 (mAt L k).P.length c1, .slice A2 (mAt L k).W.length c2, .slice A3 (mAt L k).F.length c3] 39)) := HB.alloc HB.size _
            have HB2 : Below v.heap.size v (v.alloc (.cells #[.slice A1 (mAt L k).P.length c1, .slice A2 (mAt L k).W.length c2, .slice A3 (mAt L k).F.length c3] 39)) := Below.alloc (Below.refl _ _) (Nat.le_refl _) _
            have e1 : IntKind.i64.wrap (hgts L k + hgt (mAt L k).P) = hgts L k + hgt (mAt L k).P := IntWalk.i64_in _ (by omega)
            have rm1 := rm.below HB2 (Nat.le_refl _)
            go_wp2_with fail
            generalize v.alloc (.cells #[.slice A1 (mAt L k).P.length c1, .slice A2 (mAt L k).W.length c2, .slice A3 (mAt L k).F.length c3] 39) = u at *
            clear q1 q2 q3 q2' q3'
            refine (implArm_is _ _ _ _ _ _ _ _ _ _ ha _ rm1).mono ?_
            rintro e w5 ⟨rfl, b5⟩
            have HB5 := bUp HB1 b5 HB1.size
            obtain ⟨f0, f1, f2, fz⟩ := by1.below b5
            have r5 := (rm1.below b5 (Nat.le_refl _)).r1
            clear by1 HB1 HB2
            go_wp2_with fail
            refine (height_c A1 (mAt L k).P c1 A2 (mAt L k).W.length c2 A3 (mAt L k).F.length c3 _ r5 hpar hn1 hn2).mono ?_
            rintro e w6 ⟨rfl, b6⟩
            go_wp2_with fail
            go_roundw
            case rel => exact ⟨k + 1, by omega, by go_num, rfl, fun j hj => by
              rcases Nat.lt_or_ge j k with hj' | hj'
              · exact HO.out j hj'
              · obtain rfl : j = k := by omega
                exact ha, bUp HB5 b6 HB5.size⟩
            case measure => simp [intOf] <;> omega
        · obtain rfl : k = L.length := by omega
          have hall := armAll_yes HO.out
          rw [armsB_all hd h3 hall] at hq
          by_cases h8 : hgts L L.length ≤ 8
          · obtain rfl : q = true := by rw [← hq]; simp [h8]
            go_wp2
            go_ret
            exact ⟨rfl, HB⟩
          · obtain rfl : q = false := by rw [← hq]; simp [h8]
            go_wp2
            go_ret
            exact ⟨rfl, HB⟩
  · have g3 : (3 : Int) < (L.length : Int) := by omega
    rw [armsB_len h3] at hq
    subst hq
    go_enter Try.func24, Try.ntmps24
    go_wp2
    go_ret
    exact ⟨rfl, Below.refl _ _⟩

set_option maxRecDepth 20000 in
set_option maxHeartbeats 2000000 in
theorem l8Arms_is (A : Option Addr) (L : List Mkd) (c : Nat) (a b : Int) (q : Bool) (hq : armsB L a b = q) (w : World) (h : RdMs w A L) (hs : SzMs L) :
    Calls Try.prog 28 #[.slice A L.length c, .int .i64 a, .int .i64 b] w (Quietly w (.bool q)) := by
  have hn := hs.1
  have HR := Lib.hid hs.2
  clear hs
  go_enter Try.func28, Try.ntmps28
  go_wp2
  go_loopw [7, 8] (fun p i wr => ∃ k : Nat, k ≤ L.length ∧ i = .int .i64 (k : Int) ∧ p = .int .i64 (hgts L k) ∧ (∀ j, j < k → okAt L j = true) ∧ Below w.heap.size w wr) (fun _ i _ => L.length - (intOf i).toNat)
  case atStart => exact ⟨0, by omega, rfl, rfl, (fun j hj => by omega), Below.refl _ _⟩
  case round =>
    obtain ⟨v, rfl⟩ : ∃ v : World, v = wr := ⟨_, rfl⟩
    obtain ⟨k, hk, rfl, rfl, hok, HB⟩ := hrel
    have hh := hgts_bd k hok
    have HO := Lib.hid hok
    clear hok
    by_cases hlt : k < L.length
    · obtain ⟨ad, A1, c1, A2, c2, A3, c3, rfl, q1, q2, q3, r1, r2, r3⟩ := (h.below HB (Nat.le_refl _)) k hlt
      have hm := HR.out k hlt
      have p2 := cellOff 1 (by omega) q2
      have p3 := cellOff 2 (by omega) q3
      have rm := RdMs.rdM hm r1 r2 r3
      cases ha : okAt L k
      · have hno := armAll_no hlt ha
        rw [armsB_arm hno] at hq
        subst hq
        go_wp2_with fail
        refine (l8Arm_is _ _ _ _ _ _ _ _ _ _ ha _ rm).mono ?_
        rintro e w5 ⟨rfl, b5⟩
        go_wp2
        go_ret
        exact ⟨rfl, bUp HB b5 HB.size⟩
      · have hok := armB_iff.1 ha
        have hpar := hok.tree.par
        have hn1 := hok.tree.n1
        have hn2 := hok.tree.n2
        have h4 := hok.h4
        have h0 := hgt_bd (mAt L k).P
        have e1 : IntKind.i64.wrap (hgts L k + hgt (mAt L k).P) = hgts L k + hgt (mAt L k).P := IntWalk.i64_in _ (by omega)
        go_wp2_with fail
        refine (l8Arm_is _ _ _ _ _ _ _ _ _ _ ha _ rm).mono ?_
        rintro e w5 ⟨rfl, b5⟩
        have HB5 := bUp HB b5 HB.size
        have r5 := (rm.below b5 (Nat.le_refl _)).r1
        have q1' := (b5.cell (cell_lt q1)).trans q1
        have q2' := (b5.cell (cell_lt p2)).trans p2
        clear q1 q2 q3 p2 p3
        go_wp2_with fail
        refine (l8Deepest_c A1 (mAt L k).P c1 A2 (mAt L k).W.length c2 _ r5 hpar hn1 hn2).mono ?_
        rintro e w6 ⟨rfl, b6⟩
        go_wp2_with fail
        go_roundw
        case rel => exact ⟨k + 1, by omega, by go_num, rfl, fun j hj => by
          rcases Nat.lt_or_ge j k with hj' | hj'
          · exact HO.out j hj'
          · obtain rfl : j = k := by omega
            exact ha, bUp HB5 b6 HB5.size⟩
        case measure => simp [intOf] <;> omega
    · obtain rfl : k = L.length := by omega
      have hall := armAll_yes HO.out
      cases hd : discB a b
      · rw [armsB_disc hd] at hq
        subst hq
        go_wp2_with fail
        refine (l8Discount_is a b _ hd _).mono ?_
        rintro e w2 ⟨rfl, rfl⟩
        go_wp2
        go_ret
        exact ⟨rfl, HB⟩
      · by_cases h3 : L.length ≤ 3
        · have g3 : (L.length : Int) ≤ 3 := by omega
          rw [armsB_all hd h3 hall] at hq
          by_cases h8 : hgts L L.length ≤ 8
          · obtain rfl : q = true := by rw [← hq]; simp [h8]
            go_wp2_with fail
            refine (l8Discount_is a b _ hd _).mono ?_
            rintro e w2 ⟨rfl, rfl⟩
            go_wp2
            go_ret
            exact ⟨rfl, HB⟩
          · obtain rfl : q = false := by rw [← hq]; simp [h8]
            go_wp2_with fail
            refine (l8Discount_is a b _ hd _).mono ?_
            rintro e w2 ⟨rfl, rfl⟩
            go_wp2
            go_ret
            exact ⟨rfl, HB⟩
        · have g3 : ¬ (L.length : Int) ≤ 3 := by omega
          rw [armsB_len h3] at hq
          subst hq
          go_wp2_with fail
          refine (l8Discount_is a b _ hd _).mono ?_
          rintro e w2 ⟨rfl, rfl⟩
          go_wp2
          go_ret
          exact ⟨rfl, HB⟩

end Go.Proofs.Ythhpioohdkglkaa
