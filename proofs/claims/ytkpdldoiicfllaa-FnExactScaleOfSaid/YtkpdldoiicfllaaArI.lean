/- Arms: whether they are valid: both packages' walks. -/
import Derived.Test.YtkpdldoiicfllaaArW
namespace Go.Proofs.Ytkpdldoiicfllaa
open Go.RowKit

theorem armB_1 {P W F : List Int} (h : treeB P W = false) : armB P W F = false := by simp [armB, h]
theorem armB_2 {P W F : List Int} (h : ¬ P.length ≤ 9) : armB P W F = false := armB_no fun h' => h h'.n9
theorem armB_3 {P W F : List Int} (h : ¬ hgt P ≤ 4) : armB P W F = false := armB_no fun h' => h h'.h4
theorem armB_4 {P W F : List Int} (h : F.length ≠ P.length) : armB P W F = false := armB_no fun h' => h h'.len
theorem armB_5 {P W F : List Int} (h : allB F (-99) 99 = false) : armB P W F = false := armB_no fun h' => by rw [h'.fees] at h; cases h
theorem armB_6 {P W F : List Int} (h : zB P F = false) : armB P W F = false := armB_no fun h' => by rw [h'.z] at h; cases h
theorem allWithin_is' (A : Option Addr) (xs : List Int) (c : Nat) (q : Bool) (h : allB xs (-99) 99 = q) (w : World) (ha : Rd w A (ints xs)) (hl : xs.length ≤ 16777216) :
    Calls Try.prog 65 #[.slice A xs.length c, .int .i64 (-99), .int .i64 99] w fun e w' => e = .returned (.bool q) ∧ w = w' := allWithin_is _ _ _ _ _ _ h _ ha hl

set_option maxRecDepth 20000 in
set_option maxHeartbeats 1000000 in
theorem implArm_c (A1 : Option Addr) (P : List Int) (c1 : Nat) (A2 : Option Addr) (W : List Int) (c2 : Nat) (A3 : Option Addr) (F : List Int) (c3 : Nat) (w : World) (h : RdM w A1 P A2 W A3 F) :
    Calls Try.prog 46 #[mkV A1 P.length c1 A2 W.length c2 A3 F.length c3] w (Quietly w (.bool (armB P W F))) := by
  have HB1 : Below w.heap.size w (w.alloc (.cells #[.slice A1 P.length c1, .slice A2 W.length c2, .slice A3 F.length c3] 40)) := (Below.refl _ _).alloc (Nat.le_refl _) _
  have bx := Bx3.new w (.slice A1 P.length c1) (.slice A2 W.length c2) (.slice A3 F.length c3) 40
  have hv := h.below HB1 (Nat.le_refl _)
  have l1 := h.l1
  have l3 := h.l3
  cases ht : treeB P W
  · rw [armB_1 ht]
    go_enter Try.func46, Try.ntmps46
    go_wp2_with fail
    refine (isTree_is _ _ _ _ _ _ _ ht _ hv.r1 hv.r2 hv.l1 hv.l2).mono ?_
    rintro e w2 ⟨rfl, hb2⟩
    go_wp2
    go_ret
    exact ⟨rfl, bUp HB1 hb2 HB1.size⟩
  · have HT := Lib.hid (treeB_iff.1 ht)
    by_cases h9 : P.length ≤ 9
    · by_cases hh : hgt P ≤ 4
      · by_cases hl : F.length = P.length
        · have e1 : ((F.length : Int) != (P.length : Int)) = false := by simp [hl]
          have HL := Lib.hid hl
          clear hl
          cases ha : allB F (-99) 99
          · rw [armB_5 ha]
            go_enter Try.func46, Try.ntmps46
            go_wp2_with fail
            refine (isTree_is _ _ _ _ _ _ _ ht _ hv.r1 hv.r2 hv.l1 hv.l2).mono ?_
            rintro e w2 ⟨rfl, hb2⟩
            have HB2 := bUp HB1 hb2 HB1.size
            have bx2 := bx.below hb2
            obtain ⟨f0, f1, f2, fz⟩ := id bx2
            go_wp2_with fail
            refine (height_c _ _ _ _ _ _ _ _ _ _ (h.below HB2 (Nat.le_refl _)).r1 HT.out.par HT.out.n1 HT.out.n2).mono ?_
            rintro e w3 ⟨rfl, hb3⟩
            have HB3 := bUp HB2 hb3 HB2.size
            clear f0 f1 f2 fz
            obtain ⟨f0, f1, f2, fz⟩ := bx2.below hb3
            go_wp2_with fail
            refine (allWithin_is' _ _ _ _ ha _ (h.below HB3 (Nat.le_refl _)).r3 l3).mono ?_
            rintro e w4 ⟨rfl, rfl⟩
            go_wp2
            go_ret
            exact ⟨rfl, HB3⟩
          · go_enter Try.func46, Try.ntmps46
            go_wp2_with fail
            refine (isTree_is _ _ _ _ _ _ _ ht _ hv.r1 hv.r2 hv.l1 hv.l2).mono ?_
            rintro e w2 ⟨rfl, hb2⟩
            have HB2 := bUp HB1 hb2 HB1.size
            have bx2 := bx.below hb2
            obtain ⟨f0, f1, f2, fz⟩ := id bx2
            go_wp2_with fail
            refine (height_c _ _ _ _ _ _ _ _ _ _ (h.below HB2 (Nat.le_refl _)).r1 HT.out.par HT.out.n1 HT.out.n2).mono ?_
            rintro e w3 ⟨rfl, hb3⟩
            have HB3 := bUp HB2 hb3 HB2.size
            have bx3 := bx2.below hb3
            clear f0 f1 f2 fz
            obtain ⟨f0, f1, f2, fz⟩ := id bx3
            go_wp2_with fail
            refine (allWithin_is' _ _ _ _ ha _ (h.below HB3 (Nat.le_refl _)).r3 l3).mono ?_
            rintro e w' ⟨rfl, rfl⟩
            go_wp2_with fail
            refine (isEnd_c _ _ _ _ _ _ _ (h.below HB3 (Nat.le_refl _)).r1 HT.out.par HT.out.n1 HT.out.n2).mono ?_
            rintro e w4 ⟨g, cg, rfl, og, hb4⟩
            have HB4 := bUp HB3 hb4 HB3.size
            have h3w := (h.below HB4 (Nat.le_refl _)).r3
            clear f0 f1 f2 fz
            obtain ⟨f0, f1, f2, fz⟩ := bx3.below hb4
            clear bx bx2 bx3 hb2 hb3 hb4 hv
            go_wp2
            go_loop [40] (fun i => ∃ k : Nat, k ≤ P.length ∧ i = .int .i64 k ∧ ∀ x, x < k → endB P x = true → nth F x = 0) (fun i => P.length - (intOf i).toNat)
            case atStart => exact ⟨0, by omega, rfl, fun x hx => by omega⟩
            case round =>
              obtain ⟨k, hk, rfl, hz⟩ := hrel
              have HZ := Lib.hid hz
              clear hz
              by_cases hlt : k < P.length
              · have hco := og.cell (k := k) (by rw [endsB_length]; exact hlt)
                rw [endsB_nth hlt] at hco
                obtain ⟨b, rfl, hcb⟩ := h3w.intN (k := k) (by have := HL.out; omega)
                have hkw : (k : Int) < (F.length : Int) := by have := HL.out; omega
                cases he : endB P k
                · rw [he] at hco
                  have HN : Hid (∀ x, x < k + 1 → endB P x = true → nth F x = 0) := Lib.hid fun x hx he2 => by
                    rcases Nat.lt_or_ge x k with h' | h'
                    · exact HZ.out x h' he2
                    · obtain rfl : x = k := by omega
                      rw [he] at he2; cases he2
                  clear he
                  go_wp2
                  go_round
                  case rel => exact ⟨k + 1, by omega, by go_num, HN.out⟩
                  case measure => simp [intOf] <;> omega
                · rw [he] at hco
                  by_cases hx : nth F k = 0
                  · have HN : Hid (∀ x, x < k + 1 → endB P x = true → nth F x = 0) := Lib.hid fun x hx2 he2 => by
                      rcases Nat.lt_or_ge x k with h' | h'
                      · exact HZ.out x h' he2
                      · obtain rfl : x = k := by omega
                        exact hx
                    have e3 : (nth F k != 0) = false := by simp [hx]
                    clear he hx
                    go_wp2
                    go_round
                    case rel => exact ⟨k + 1, by omega, by go_num, HN.out⟩
                    case measure => simp [intOf] <;> omega
                  · have HN := Lib.hid (armB_6 (W := W) (zB_no hlt he hx))
                    have e3 : (nth F k != 0) = true := by simp [hx]
                    clear he hx
                    go_wp2
                    go_ret
                    exact ⟨by rw [HN.out] <;> rfl, HB4⟩
              · have HN : Hid (armB P W F = true) := Lib.hid (armB_iff.2 ⟨HT.out, h9, hh, HL.out, ha, zB_iff.2 fun x hx he => HZ.out x (by omega) he⟩)
                go_wp2
                go_ret
                exact ⟨by rw [HN.out] <;> rfl, HB4⟩
        · have e1 : ((F.length : Int) != (P.length : Int)) = true := by simp; omega
          rw [armB_4 hl]
          clear hl
          go_enter Try.func46, Try.ntmps46
          go_wp2_with fail
          refine (isTree_is _ _ _ _ _ _ _ ht _ hv.r1 hv.r2 hv.l1 hv.l2).mono ?_
          rintro e w2 ⟨rfl, hb2⟩
          have HB2 := bUp HB1 hb2 HB1.size
          have bx2 := bx.below hb2
          obtain ⟨f0, f1, f2, fz⟩ := id bx2
          go_wp2_with fail
          refine (height_c _ _ _ _ _ _ _ _ _ _ (h.below HB2 (Nat.le_refl _)).r1 HT.out.par HT.out.n1 HT.out.n2).mono ?_
          rintro e w3 ⟨rfl, hb3⟩
          have HB3 := bUp HB2 hb3 HB2.size
          clear f0 f1 f2 fz
          obtain ⟨f0, f1, f2, fz⟩ := bx2.below hb3
          go_wp2
          go_ret
          exact ⟨rfl, HB3⟩
      · rw [armB_3 hh]
        go_enter Try.func46, Try.ntmps46
        go_wp2_with fail
        refine (isTree_is _ _ _ _ _ _ _ ht _ hv.r1 hv.r2 hv.l1 hv.l2).mono ?_
        rintro e w2 ⟨rfl, hb2⟩
        have HB2 := bUp HB1 hb2 HB1.size
        obtain ⟨f0, f1, f2, fz⟩ := bx.below hb2
        go_wp2_with fail
        refine (height_c _ _ _ _ _ _ _ _ _ _ (h.below HB2 (Nat.le_refl _)).r1 HT.out.par HT.out.n1 HT.out.n2).mono ?_
        rintro e w3 ⟨rfl, hb3⟩
        go_wp2
        go_ret
        exact ⟨rfl, bUp HB2 hb3 HB2.size⟩
    · rw [armB_2 h9]
      go_enter Try.func46, Try.ntmps46
      go_wp2_with fail
      refine (isTree_is _ _ _ _ _ _ _ ht _ hv.r1 hv.r2 hv.l1 hv.l2).mono ?_
      rintro e w2 ⟨rfl, hb2⟩
      go_wp2
      go_ret
      exact ⟨rfl, bUp HB1 hb2 HB1.size⟩

set_option maxRecDepth 20000 in
set_option maxHeartbeats 1000000 in
theorem l8Arm_c (A1 : Option Addr) (P : List Int) (c1 : Nat) (A2 : Option Addr) (W : List Int) (c2 : Nat) (A3 : Option Addr) (F : List Int) (c3 : Nat) (w : World) (h : RdM w A1 P A2 W A3 F) :
    Calls Try.prog 37 #[mkV A1 P.length c1 A2 W.length c2 A3 F.length c3] w (Quietly w (.bool (armB P W F))) := by
  have HB1 : Below w.heap.size w (w.alloc (.cells #[.slice A1 P.length c1, .slice A2 W.length c2, .slice A3 F.length c3] 40)) := (Below.refl _ _).alloc (Nat.le_refl _) _
  have bx := Bx3.new w (.slice A1 P.length c1) (.slice A2 W.length c2) (.slice A3 F.length c3) 40
  have hv := h.below HB1 (Nat.le_refl _)
  have l1 := h.l1
  have l3 := h.l3
  cases ht : treeB P W
  · rw [armB_1 ht]
    go_enter Try.func37, Try.ntmps37
    go_wp2_with fail
    refine (l2Good_is _ _ _ _ _ _ _ ht _ hv.r1 hv.r2 hv.l1 hv.l2).mono ?_
    rintro e w2 ⟨rfl, hb2⟩
    go_wp2
    go_ret
    exact ⟨rfl, bUp HB1 hb2 HB1.size⟩
  · have HT := Lib.hid (treeB_iff.1 ht)
    by_cases h9 : P.length ≤ 9
    · by_cases hl : F.length = P.length
      · have e1 : ((F.length : Int) != (P.length : Int)) = false := by simp [hl]
        have HL := Lib.hid hl
        clear hl
        by_cases hh : hgt P ≤ 4
        · go_enter Try.func37, Try.ntmps37
          go_wp2_with fail
          refine (l2Good_is _ _ _ _ _ _ _ ht _ hv.r1 hv.r2 hv.l1 hv.l2).mono ?_
          rintro e w2 ⟨rfl, hb2⟩
          have HB2 := bUp HB1 hb2 HB1.size
          have bx2 := bx.below hb2
          obtain ⟨f0, f1, f2, fz⟩ := id bx2
          go_wp2_with fail
          refine (l8Deepest_c _ _ _ _ _ _ _ (h.below HB2 (Nat.le_refl _)).r1 HT.out.par HT.out.n1 HT.out.n2).mono ?_
          rintro e w3 ⟨rfl, hb3⟩
          have HB3 := bUp HB2 hb3 HB2.size
          have h3w := (h.below HB3 (Nat.le_refl _)).r3
          have h2w := (h.below HB3 (Nat.le_refl _)).r2
          clear f0 f1 f2 fz
          obtain ⟨f0, f1, f2, fz⟩ := bx2.below hb3
          clear bx bx2 hb2 hb3 hv
          go_wp2
          go_loop [3] (fun i => ∃ k : Nat, k ≤ F.length ∧ i = .int .i64 k ∧ allB (F.take k) (-99) 99 = true ∧ ∀ x, x < k → endB P x = true → nth F x = 0) (fun i => F.length - (intOf i).toNat)
          case atStart => exact ⟨0, by omega, rfl, rfl, fun x hx => by omega⟩
          case round =>
            obtain ⟨k, hk, rfl, hall, hz⟩ := hrel
            have HA := Lib.hid hall
            have HZ := Lib.hid hz
            clear hall hz
            by_cases hlt : k < F.length
            · obtain ⟨a, rfl, hca⟩ := h3w.intN hlt
              have hkP : k < P.length := by have := HL.out; omega
              have hkW : k < W.length := by have := HT.out.len; omega
              obtain ⟨b, rfl, hcb⟩ := h2w.intN hkW
              cases hx : inB (nth F k) (-99) 99
              · have HN := Lib.hid (armB_5 (P := P) (W := W) (allB_no hlt hx))
                go_wp2_with fail
                refine (l1In_is _ _ _ _ hx _).mono ?_
                rintro e w' ⟨rfl, rfl⟩
                go_wp2
                go_ret
                exact ⟨by rw [HN.out] <;> rfl, HB3⟩
              · have HN := Lib.hid (allB_succ hlt HA.out hx)
                by_cases he : 0 < nth W k
                · have HE := Lib.hid ((HT.out.end_iff hkP).2 he)
                  by_cases h0 : nth F k = 0
                  · have e2 : (nth F k != 0) = false := by simp [h0]
                    have HZ2 : Hid (∀ x, x < k + 1 → endB P x = true → nth F x = 0) := Lib.hid fun x hx he => by
                      rcases Nat.lt_or_ge x k with h' | h'
                      · exact HZ.out x h' he
                      · rw [show x = k by omega]; exact h0
                    clear h0
                    go_wp2_with fail
                    refine (l1In_is _ _ _ _ hx _).mono ?_
                    rintro e w' ⟨rfl, rfl⟩
                    go_wp2
                    go_round
                    case rel => exact ⟨k + 1, by omega, by go_num, HN.out, HZ2.out⟩
                    case measure => simp [intOf] <;> omega
                  · have e2 : (nth F k != 0) = true := by simp [h0]
                    have HF := Lib.hid (armB_6 (W := W) (zB_no hkP HE.out h0))
                    clear h0
                    go_wp2_with fail
                    refine (l1In_is _ _ _ _ hx _).mono ?_
                    rintro e w' ⟨rfl, rfl⟩
                    go_wp2
                    go_ret
                    exact ⟨by rw [HF.out] <;> rfl, HB3⟩
                · have HZ2 : Hid (∀ x, x < k + 1 → endB P x = true → nth F x = 0) := Lib.hid fun x hx he2 => by
                    rcases Nat.lt_or_ge x k with h' | h'
                    · exact HZ.out x h' he2
                    · obtain rfl : x = k := by omega
                      exact absurd ((HT.out.end_iff hkP).1 he2) he
                  go_wp2_with fail
                  refine (l1In_is _ _ _ _ hx _).mono ?_
                  rintro e w' ⟨rfl, rfl⟩
                  go_wp2
                  go_round
                  case rel => exact ⟨k + 1, by omega, by go_num, HN.out, HZ2.out⟩
                  case measure => simp [intOf] <;> omega
            · have HF : Hid (armB P W F = true) := Lib.hid (armB_iff.2 ⟨HT.out, h9, hh, HL.out, allB_end hlt HA.out, zB_iff.2 fun x hx he => HZ.out x (by have := HL.out; omega) he⟩)
              go_wp2
              go_ret
              exact ⟨by rw [HF.out] <;> rfl, HB3⟩
        · rw [armB_3 hh]
          go_enter Try.func37, Try.ntmps37
          go_wp2_with fail
          refine (l2Good_is _ _ _ _ _ _ _ ht _ hv.r1 hv.r2 hv.l1 hv.l2).mono ?_
          rintro e w2 ⟨rfl, hb2⟩
          have HB2 := bUp HB1 hb2 HB1.size
          obtain ⟨f0, f1, f2, fz⟩ := bx.below hb2
          go_wp2_with fail
          refine (l8Deepest_c _ _ _ _ _ _ _ (h.below HB2 (Nat.le_refl _)).r1 HT.out.par HT.out.n1 HT.out.n2).mono ?_
          rintro e w3 ⟨rfl, hb3⟩
          go_wp2
          go_ret
          exact ⟨rfl, bUp HB2 hb3 HB2.size⟩
      · have e1 : ((F.length : Int) != (P.length : Int)) = true := by simp; omega
        rw [armB_4 hl]
        clear hl
        go_enter Try.func37, Try.ntmps37
        go_wp2_with fail
        refine (l2Good_is _ _ _ _ _ _ _ ht _ hv.r1 hv.r2 hv.l1 hv.l2).mono ?_
        rintro e w2 ⟨rfl, hb2⟩
        obtain ⟨f0, f1, f2, fz⟩ := bx.below hb2
        go_wp2
        go_ret
        exact ⟨rfl, bUp HB1 hb2 HB1.size⟩
    · rw [armB_2 h9]
      go_enter Try.func37, Try.ntmps37
      go_wp2_with fail
      refine (l2Good_is _ _ _ _ _ _ _ ht _ hv.r1 hv.r2 hv.l1 hv.l2).mono ?_
      rintro e w2 ⟨rfl, hb2⟩
      obtain ⟨f0, f1, f2, fz⟩ := bx.below hb2
      go_wp2
      go_ret
      exact ⟨rfl, bUp HB1 hb2 HB1.size⟩
theorem implArm_is (A1 : Option Addr) (P : List Int) (c1 : Nat) (A2 : Option Addr) (W : List Int) (c2 : Nat) (A3 : Option Addr) (F : List Int) (c3 : Nat) (q : Bool) (hq : armB P W F = q) (w : World) (h : RdM w A1 P A2 W A3 F) :
    Calls Try.prog 46 #[mkV A1 P.length c1 A2 W.length c2 A3 F.length c3] w (Quietly w (.bool q)) := by
  rw [← hq]
  exact implArm_c A1 P c1 A2 W c2 A3 F c3 w h
theorem l8Arm_is (A1 : Option Addr) (P : List Int) (c1 : Nat) (A2 : Option Addr) (W : List Int) (c2 : Nat) (A3 : Option Addr) (F : List Int) (c3 : Nat) (q : Bool) (hq : armB P W F = q) (w : World) (h : RdM w A1 P A2 W A3 F) :
    Calls Try.prog 37 #[mkV A1 P.length c1 A2 W.length c2 A3 F.length c3] w (Quietly w (.bool q)) := by
  rw [← hq]
  exact l8Arm_c A1 P c1 A2 W c2 A3 F c3 w h
end Go.Proofs.Ytkpdldoiicfllaa
