/- Markets: whether they are valid, whether holdings are: both packages' walks. -/
import Derived.Test.YtnhclpajfejnoaaTrA
import Derived.Test.YtnhclpajfejnoaaTreA
namespace Go.Proofs.Ytnhclpajfejnoaa
open Go.RowKit

theorem mktB_1 {P W F : List Int} (h : treeB P W = false) : mktB P W F = false := by simp [mktB, h]
theorem mktB_2 {P W F : List Int} (h : F.length ≠ P.length) : mktB P W F = false := by simp [mktB, h]
theorem mktB_3 {P W F : List Int} {q : Bool} (h1 : treeB P W = true) (h2 : F.length = P.length) (h : allB F 0 20 = q) : mktB P W F = q := by simp [mktB, h1, h2, h]

theorem isMarket_c (A1 : Option Addr) (P : List Int) (c1 : Nat) (A2 : Option Addr) (W : List Int) (c2 : Nat) (A3 : Option Addr) (F : List Int) (c3 : Nat) (w : World) (h : RdM w A1 P A2 W A3 F) :
    Calls Try.prog 16 #[mkV A1 P.length c1 A2 W.length c2 A3 F.length c3] w (Quietly w (.bool (mktB P W F))) := by
  have HB1 : Below w.heap.size w (w.alloc (.cells #[.slice A1 P.length c1, .slice A2 W.length c2, .slice A3 F.length c3] 28)) := (Below.refl _ _).alloc (Nat.le_refl _) _
  have bx := Bx3.new w (.slice A1 P.length c1) (.slice A2 W.length c2) (.slice A3 F.length c3) 28
  have hv := h.below HB1 (Nat.le_refl _)
  have l1 := h.l1
  have l3 := h.l3
  cases ht : treeB P W
  · rw [mktB_1 ht]
    go_enter Try.func16, Try.ntmps16
    go_wp2_with fail
    refine (isTree_is _ _ _ _ _ _ _ ht _ hv.r1 hv.r2 hv.l1 hv.l2).mono ?_
    rintro e w2 ⟨rfl, hb2⟩
    go_wp2
    go_ret
    exact ⟨rfl, bUp HB1 hb2 HB1.size⟩
  · by_cases hl : F.length = P.length
    · have e1 : ((F.length : Int) == (P.length : Int)) = true := by simp [hl]
      cases ha : allB F 0 20
      all_goals
        rw [mktB_3 ht hl ha]
        clear hl
        go_enter Try.func16, Try.ntmps16
        go_wp2_with fail
        refine (isTree_is _ _ _ _ _ _ _ ht _ hv.r1 hv.r2 hv.l1 hv.l2).mono ?_
        rintro e w2 ⟨rfl, hb2⟩
        have HB2 := bUp HB1 hb2 HB1.size
        obtain ⟨f0, f1, f2, f3⟩ := bx.below hb2
        go_wp2_with fail
        refine (allWithin_is _ _ _ _ _ _ ha _ (h.below HB2 (Nat.le_refl _)).r3 l3).mono ?_
        rintro e w3 ⟨rfl, rfl⟩
        go_wp2
        go_ret
        exact ⟨rfl, HB2⟩
    · have e1 : ((F.length : Int) == (P.length : Int)) = false := by simp; omega
      rw [mktB_2 hl]
      clear hl
      go_enter Try.func16, Try.ntmps16
      go_wp2_with fail
      refine (isTree_is _ _ _ _ _ _ _ ht _ hv.r1 hv.r2 hv.l1 hv.l2).mono ?_
      rintro e w2 ⟨rfl, hb2⟩
      have HB2 := bUp HB1 hb2 HB1.size
      obtain ⟨f0, f1, f2, f3⟩ := bx.below hb2
      go_wp2
      go_ret
      exact ⟨rfl, HB2⟩
theorem isMarket_is (A1 : Option Addr) (P : List Int) (c1 : Nat) (A2 : Option Addr) (W : List Int) (c2 : Nat) (A3 : Option Addr) (F : List Int) (c3 : Nat) (q : Bool) (hq : mktB P W F = q) (w : World) (h : RdM w A1 P A2 W A3 F) :
    Calls Try.prog 16 #[mkV A1 P.length c1 A2 W.length c2 A3 F.length c3] w (Quietly w (.bool q)) := by
  rw [← hq]
  exact isMarket_c A1 P c1 A2 W c2 A3 F c3 w h

theorem l6Market_c (A1 : Option Addr) (P : List Int) (c1 : Nat) (A2 : Option Addr) (W : List Int) (c2 : Nat) (A3 : Option Addr) (F : List Int) (c3 : Nat) (w : World) (h : RdM w A1 P A2 W A3 F) :
    Calls Try.prog 63 #[mkV A1 P.length c1 A2 W.length c2 A3 F.length c3] w (Quietly w (.bool (mktB P W F))) := by
  have HB1 : Below w.heap.size w (w.alloc (.cells #[.slice A1 P.length c1, .slice A2 W.length c2, .slice A3 F.length c3] 28)) := (Below.refl _ _).alloc (Nat.le_refl _) _
  have bx := Bx3.new w (.slice A1 P.length c1) (.slice A2 W.length c2) (.slice A3 F.length c3) 28
  have hv := h.below HB1 (Nat.le_refl _)
  have l1 := h.l1
  have l3 := h.l3
  cases ht : treeB P W
  · rw [mktB_1 ht]
    go_enter Try.func63, Try.ntmps63
    go_wp2_with fail
    refine (l2Good_is _ _ _ _ _ _ _ ht _ hv.r1 hv.r2 hv.l1 hv.l2).mono ?_
    rintro e w2 ⟨rfl, hb2⟩
    go_wp2
    go_ret
    exact ⟨rfl, bUp HB1 hb2 HB1.size⟩
  · by_cases hl : F.length = P.length
    · have e1 : ((F.length : Int) != (P.length : Int)) = false := by simp [hl]
      have HL := Lib.hid hl
      clear hl
      go_enter Try.func63, Try.ntmps63
      go_wp2_with fail
      refine (l2Good_is _ _ _ _ _ _ _ ht _ hv.r1 hv.r2 hv.l1 hv.l2).mono ?_
      rintro e w2 ⟨rfl, hb2⟩
      have HB2 := bUp HB1 hb2 HB1.size
      obtain ⟨f0, f1, f2, f3⟩ := bx.below hb2
      have h3 := (h.below HB2 (Nat.le_refl _)).r3
      clear bx hv
      go_wp2
      go_loop [3] (fun i => ∃ k : Nat, k ≤ F.length ∧ i = .int .i64 k ∧ allB (F.take k) 0 20 = true) (fun i => F.length - (intOf i).toNat)
      case atStart => exact ⟨0, by omega, rfl, rfl⟩
      case round =>
        obtain ⟨k, hk, rfl, hall⟩ := hrel
        have HA := Lib.hid hall
        clear hall
        by_cases hlt : k < F.length
        · obtain ⟨a, rfl, hca⟩ := h3.intN hlt
          cases hx : inB (nth F k) 0 20
          · have HN := Lib.hid (mktB_3 ht HL.out (allB_no hlt hx))
            go_wp2_with fail
            refine (l1In_is _ _ _ _ hx _).mono ?_
            rintro e w' ⟨rfl, rfl⟩
            go_wp2
            go_ret
            exact ⟨by rw [HN.out] <;> rfl, HB2⟩
          · have HN := Lib.hid (allB_succ hlt HA.out hx)
            go_wp2_with fail
            refine (l1In_is _ _ _ _ hx _).mono ?_
            rintro e w' ⟨rfl, rfl⟩
            go_wp2
            go_round
            case rel => exact ⟨k + 1, by omega, by go_num, HN.out⟩
            case measure => simp [intOf] <;> omega
        · have HN := Lib.hid (mktB_3 ht HL.out (allB_end hlt HA.out))
          go_wp2
          go_ret
          exact ⟨by rw [HN.out] <;> rfl, HB2⟩
    · have e1 : ((F.length : Int) != (P.length : Int)) = true := by simp; omega
      rw [mktB_2 hl]
      clear hl
      go_enter Try.func63, Try.ntmps63
      go_wp2_with fail
      refine (l2Good_is _ _ _ _ _ _ _ ht _ hv.r1 hv.r2 hv.l1 hv.l2).mono ?_
      rintro e w2 ⟨rfl, hb2⟩
      have HB2 := bUp HB1 hb2 HB1.size
      obtain ⟨f0, f1, f2, f3⟩ := bx.below hb2
      go_wp2
      go_ret
      exact ⟨rfl, HB2⟩
theorem l6Market_is (A1 : Option Addr) (P : List Int) (c1 : Nat) (A2 : Option Addr) (W : List Int) (c2 : Nat) (A3 : Option Addr) (F : List Int) (c3 : Nat) (q : Bool) (hq : mktB P W F = q) (w : World) (h : RdM w A1 P A2 W A3 F) :
    Calls Try.prog 63 #[mkV A1 P.length c1 A2 W.length c2 A3 F.length c3] w (Quietly w (.bool q)) := by
  rw [← hq]
  exact l6Market_c A1 P c1 A2 W c2 A3 F c3 w h

theorem hldB_1 {P F H : List Int} (h : H.length ≠ F.length) : hldB P F H = false := by simp [hldB, h]
theorem hldB_2 {P F H : List Int} (h1 : H.length = F.length) (h : allB H (-99) 99 = false) : hldB P F H = false := by simp [hldB, h1, h]
theorem hldB_3 {P F H : List Int} {q : Bool} (h1 : H.length = F.length) (h2 : allB H (-99) 99 = true) (h : zB P H = q) : hldB P F H = q := by simp [hldB, h1, h2, h]
/-- Among the first k ends there is no other number. -/
def ZTo (P H : List Int) (k : Nat) : Prop := ∀ i, i < k → nth H (nth (endL P) i).toNat = 0
theorem areHoldings_c (A1 : Option Addr) (P : List Int) (c1 : Nat) (A2 : Option Addr) (W : List Int) (c2 : Nat) (A3 : Option Addr) (F : List Int) (c3 : Nat) (A4 : Option Addr) (H : List Int) (c4 : Nat) (w : World) (h : RdM w A1 P A2 W A3 F) (h4 : Rd w A4 (ints H)) (hl4 : H.length ≤ 16777216)
    (hm : mktB P W F = true) :
    Calls Try.prog 93 #[mkV A1 P.length c1 A2 W.length c2 A3 F.length c3, .slice A4 H.length c4] w (Quietly w (.bool (hldB P F H))) := by
  have HB1 : Below w.heap.size w (w.alloc (.cells #[.slice A1 P.length c1, .slice A2 W.length c2, .slice A3 F.length c3] 28)) := (Below.refl _ _).alloc (Nat.le_refl _) _
  have hv := h.below HB1 (Nat.le_refl _)
  have l3 := h.l3
  have HM := Lib.hid (mktB_iff.1 hm)
  by_cases hl : H.length = F.length
  · have e1 : ((H.length : Int) != (F.length : Int)) = false := by simp [hl]
    have HL := Lib.hid hl
    clear hl
    cases ha : allB H (-99) 99
    · rw [hldB_2 HL.out ha]
      go_enter Try.func93, Try.ntmps93
      go_wp2_with fail
      refine (allWithin_is _ _ _ _ _ _ ha _ (h4.below HB1 (Nat.le_refl _)) hl4).mono ?_
      rintro e w3 ⟨rfl, rfl⟩
      go_wp2
      go_ret
      exact ⟨rfl, HB1⟩
    · go_enter Try.func93, Try.ntmps93
      go_wp2_with fail
      refine (allWithin_is _ _ _ _ _ _ ha _ (h4.below HB1 (Nat.le_refl _)) hl4).mono ?_
      rintro e w3 ⟨rfl, rfl⟩
      go_wp2_with fail
      refine (ends_c _ _ _ _ _ _ _ hv.r1 HM.out.1.par HM.out.1.n1 HM.out.1.n2).mono ?_
      rintro e w2 ⟨Ae, ce, rfl, oe, hb2⟩
      have HB2 := bUp HB1 hb2 HB1.size
      have h42 := h4.below HB2 (Nat.le_refl _)
      have hr := oe.rd
      have hle := enTo_len P P.length
      have hn24 := HM.out.1.n2
      clear oe hb2 hv
      change (endL P).length ≤ _ at hle
      go_wp2
      go_loop [22] (fun i => ∃ k : Nat, k ≤ (endL P).length ∧ i = .int .i64 k ∧ ZTo P H k) (fun i => (endL P).length - (intOf i).toNat)
      case atStart => exact ⟨0, by omega, rfl, fun i hi => by omega⟩
      case round =>
        obtain ⟨k, hk, rfl, hz⟩ := hrel
        have HZ := Lib.hid hz
        clear hz
        by_cases hlt : k < (endL P).length
        · obtain ⟨a, rfl, hca⟩ := hr.intN hlt
          obtain ⟨j, hj, hje, hjn⟩ := endL_nth hlt
          rw [hjn] at hca
          have hjH : j < H.length := by have := HL.out; have := HM.out.2.1; omega
          obtain ⟨b, rfl, hcb⟩ := h42.intN hjH
          by_cases hx : nth H j = 0
          · have e2 : (nth H j != 0) = false := by simp [hx]
            have HN : Hid (ZTo P H (k + 1)) := Lib.hid (fun i hi => by
              rcases Nat.lt_or_ge i k with h' | h'
              · exact HZ.out i h'
              · rw [show i = k by omega, hjn]; exact hx)
            clear hx hjn
            go_wp2
            go_round
            case rel => exact ⟨k + 1, by omega, by go_num, HN.out⟩
            case measure => simp [intOf] <;> omega
          · have e2 : (nth H j != 0) = true := by simp [hx]
            have HN := Lib.hid (hldB_3 HL.out ha (zB_no hj hje hx))
            clear hx hjn
            go_wp2
            go_ret
            exact ⟨by rw [HN.out] <;> rfl, HB2⟩
        · have HN := Lib.hid (hldB_3 HL.out ha (zB_end fun i hi => HZ.out i (by omega)))
          go_wp2
          go_ret
          exact ⟨by rw [HN.out] <;> rfl, HB2⟩
  · have e1 : ((H.length : Int) != (F.length : Int)) = true := by simp; omega
    rw [hldB_1 hl]
    clear hl
    go_enter Try.func93, Try.ntmps93
    go_wp2
    go_ret
    exact ⟨rfl, HB1⟩
theorem areHoldings_is (A1 : Option Addr) (P : List Int) (c1 : Nat) (A2 : Option Addr) (W : List Int) (c2 : Nat) (A3 : Option Addr) (F : List Int) (c3 : Nat) (A4 : Option Addr) (H : List Int) (c4 : Nat) (q : Bool) (hq : hldB P F H = q) (w : World) (h : RdM w A1 P A2 W A3 F) (h4 : Rd w A4 (ints H)) (hl4 : H.length ≤ 16777216)
    (hm : mktB P W F = true) :
    Calls Try.prog 93 #[mkV A1 P.length c1 A2 W.length c2 A3 F.length c3, .slice A4 H.length c4] w (Quietly w (.bool q)) := by
  rw [← hq]
  exact areHoldings_c A1 P c1 A2 W c2 A3 F c3 A4 H c4 w h h4 hl4 hm
end Go.Proofs.Ytnhclpajfejnoaa
