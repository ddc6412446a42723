/- Several arms: the reference's test of them. -/
import Derived.Test.YtkpdldoiicfllaaArmsI
namespace Go.Proofs.Ytkpdldoiicfllaa
open Go.RowKit

set_option maxRecDepth 20000 in
set_option maxHeartbeats 2000000 in
theorem l8Arms_is (A : Option Addr) (L : List Mkd) (c : Nat) (a b : Int) (q : Bool) (hq : armsB L a b = q) (w : World) (h : RdMs w A L) (hs : SzMs L) :
    Calls Try.prog 19 #[.slice A L.length c, .int .i64 a, .int .i64 b] w (Quietly w (.bool q)) := by
  have hn := hs.1
  have HR := Lib.hid hs.2
  clear hs
  go_enter Try.func19, Try.ntmps19
  go_wp2
  go_loopw [7, 8] (fun p i wr => ∃ k : Nat, k ≤ L.length ∧ i = .int .i64 (k : Int) ∧ p = .int .i64 (hgts L k) ∧ (∀ j, j < k → okAt L j = true) ∧ Below w.heap.size w wr) (fun _ i _ => L.length - (intOf i).toNat)
  case atStart => exact ⟨0, by omega, rfl, rfl, (fun j hj => by omega), Below.refl _ _⟩
  case round =>
    obtain ⟨v, rfl⟩ : ∃ v : World, v = wr := ⟨_, rfl⟩
    obtain ⟨k, hk, rfl, rfl, hok, HB⟩ := hrel
    have hh := hgts_bd k hok
    have HO := Lib.hid hok
    clear hok
    by_cases hlt : k < L.length
    · obtain ⟨ad, A1, c1, A2, c2, A3, c3, rfl, q1, q2, q3, r1, r2, r3⟩ := (h.below HB (Nat.le_refl _)) k hlt
      have hm := HR.out k hlt
      have p2 := cellOff 1 (by omega) q2
      have p3 := cellOff 2 (by omega) q3
      have rm := RdMs.rdM hm r1 r2 r3
      cases ha : okAt L k
      · have hno := armAll_no hlt ha
        rw [armsB_arm hno] at hq
        subst hq
        go_wp2_with fail
        refine (l8Arm_is _ _ _ _ _ _ _ _ _ _ ha _ rm).mono ?_
        rintro e w5 ⟨rfl, b5⟩
        go_wp2
        go_ret
        exact ⟨rfl, bUp HB b5 HB.size⟩
      · have hok := armB_iff.1 ha
        have hpar := hok.tree.par
        have hn1 := hok.tree.n1
        have hn2 := hok.tree.n2
        have h4 := hok.h4
        have h0 := hgt_bd (mAt L k).P
        have e1 : IntKind.i64.wrap (hgts L k + hgt (mAt L k).P) = hgts L k + hgt (mAt L k).P := IntWalk.i64_in _ (by omega)
        go_wp2_with fail
        refine (l8Arm_is _ _ _ _ _ _ _ _ _ _ ha _ rm).mono ?_
        rintro e w5 ⟨rfl, b5⟩
        have HB5 := bUp HB b5 HB.size
        have r5 := (rm.below b5 (Nat.le_refl _)).r1
        have q1' := (b5.cell (cell_lt q1)).trans q1
        have q2' := (b5.cell (cell_lt p2)).trans p2
        clear q1 q2 q3 p2 p3
        go_wp2_with fail
        refine (l8Deepest_c A1 (mAt L k).P c1 A2 (mAt L k).W.length c2 _ r5 hpar hn1 hn2).mono ?_
        rintro e w6 ⟨rfl, b6⟩
        go_wp2_with fail
        go_roundw
        case rel => exact ⟨k + 1, by omega, by go_num, rfl, fun j hj => by
          rcases Nat.lt_or_ge j k with hj' | hj'
          · exact HO.out j hj'
          · obtain rfl : j = k := by omega
            exact ha, bUp HB5 b6 HB5.size⟩
        case measure => simp [intOf] <;> omega
    · obtain rfl : k = L.length := by omega
      have hall := armAll_yes HO.out
      cases hd : discB a b
      · rw [armsB_disc hd] at hq
        subst hq
        go_wp2_with fail
        refine (l8Discount_is a b _ hd _).mono ?_
        rintro e w2 ⟨rfl, rfl⟩
        go_wp2
        go_ret
        exact ⟨rfl, HB⟩
      · by_cases h3 : L.length ≤ 3
        · have g3 : (L.length : Int) ≤ 3 := by omega
          rw [armsB_all hd h3 hall] at hq
          by_cases h8 : hgts L L.length ≤ 8
          · obtain rfl : q = true := by rw [← hq]; simp [h8]
            go_wp2_with fail
            refine (l8Discount_is a b _ hd _).mono ?_
            rintro e w2 ⟨rfl, rfl⟩
            go_wp2
            go_ret
            exact ⟨rfl, HB⟩
          · obtain rfl : q = false := by rw [← hq]; simp [h8]
            go_wp2_with fail
            refine (l8Discount_is a b _ hd _).mono ?_
            rintro e w2 ⟨rfl, rfl⟩
            go_wp2
            go_ret
            exact ⟨rfl, HB⟩
        · have g3 : ¬ (L.length : Int) ≤ 3 := by omega
          rw [armsB_len h3] at hq
          subst hq
          go_wp2_with fail
          refine (l8Discount_is a b _ hd _).mono ?_
          rintro e w2 ⟨rfl, rfl⟩
          go_wp2
          go_ret
          exact ⟨rfl, HB⟩
end Go.Proofs.Ytkpdldoiicfllaa
