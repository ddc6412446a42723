/- DoCoverClaims, DoMatchClaims: both packages' walks. (Written by gen_cl.py.) -/
import Derived.Test.YtebobechpdpfbaaClW
namespace Go.Proofs.Ytebobechpdpfbaa
open Go.RowKit

theorem whV_nth {P W F H : List Int} {s : Int} {j k : Nat} (h : hlB P W F H s = true) (hj : nth (endL P) k = (j : Int)) : nth (whV P W F H s) j = wlE P F H s k := by
  rw [whV_yes h, wlE, hj, Int.toNat_natCast]
theorem DoCoverClaims_fn (a b : Int) (w : World) : Calls Try.prog 98 #[.int .i64 a, .int .i64 b] w fun e w' => e = .returned (.bool (prC a b)) ∧ w = w' := by
  by_cases h : b ≤ a
  · have e1 : prC a b = true := by simp [prC]; omega
    rw [e1]
    go_enter Try.func98, Try.ntmps98
    go_wp2
    go_ret
    exact ⟨by rfl, rfl⟩
  · have e1 : prC a b = false := by simp [prC]; omega
    rw [e1]
    go_enter Try.func98, Try.ntmps98
    go_wp2
    go_ret
    exact ⟨by rfl, rfl⟩
theorem DoMatchClaims_fn (a b : Int) (w : World) : Calls Try.prog 99 #[.int .i64 a, .int .i64 b] w fun e w' => e = .returned (.bool (prM a b)) ∧ w = w' := by
  by_cases h : a = b
  · have e1 : prM a b = true := by simp [prM]; omega
    have e2 : (a == b) = true := by simp [h]
    rw [e1]
    go_enter Try.func99, Try.ntmps99
    go_wp2
    go_ret
    exact ⟨by rfl, rfl⟩
  · have e1 : prM a b = false := by simp [prM]; omega
    have e2 : (a == b) = false := by simp [h]
    rw [e1]
    go_enter Try.func99, Try.ntmps99
    go_wp2
    go_ret
    exact ⟨by rfl, rfl⟩
set_option maxRecDepth 20000 in
set_option maxHeartbeats 1000000 in
theorem specDoCoverClaims_c (A1 : Option Addr) (P : List Int) (c1 : Nat) (A2 : Option Addr) (W : List Int) (c2 : Nat) (A3 : Option Addr) (F : List Int) (c3 : Nat) (s : Int) (A4 : Option Addr) (H : List Int) (c4 : Nat) (A7 : Option Addr) (C : List Int) (c7 : Nat) (w : World) (h : RdM w A1 P A2 W A3 F) (h4 : Rd w A4 (ints H)) (h7 : Rd w A7 (ints C)) (hl4 : H.length ≤ 16777216) (hl7 : C.length ≤ 16777216) :
    Calls Try.prog 26 #[mkV A1 P.length c1 A2 W.length c2 A3 F.length c3, .int .i64 s, .slice A4 H.length c4, .slice A7 C.length c7] w (Quietly w (.tuple #[.bool (dcV prC P W F H C s), .bool (dcB P W F H C s)])) := by
  have HB1 : Below w.heap.size w (w.alloc (.cells #[.slice A1 P.length c1, .slice A2 W.length c2, .slice A3 F.length c3] 32)) := (Below.refl _ _).alloc (Nat.le_refl _) _
  have bx := Bx3.new w (.slice A1 P.length c1) (.slice A2 W.length c2) (.slice A3 F.length c3) 32
  have hv := h.below HB1 (Nat.le_refl _)
  have h4v := h4.below HB1 (Nat.le_refl _)
  have h7v := h7.below HB1 (Nat.le_refl _)
  cases hq : hlB P W F H s
  · have HD := Lib.hid (dcB_1 (C := C) hq)
    rw [dcV_no HD.out, HD.out]
    go_enter Try.func26, Try.ntmps26
    go_wp2_with fail
    refine (l6Holds_is _ _ _ _ _ _ _ _ _ _ _ _ _ _ hq _ hv h4v hl4).mono ?_
    rintro e w2 ⟨rfl, hb2⟩
    go_wp2
    go_ret2
    exact ⟨rfl, bUp HB1 hb2 HB1.size⟩
  · have HQ := Lib.hid hq
    cases hc : clmB P C
    · have HD := Lib.hid (dcB_2 hq hc)
      rw [dcV_no HD.out, HD.out]
      go_enter Try.func26, Try.ntmps26
      go_wp2_with fail
      refine (l6Holds_is _ _ _ _ _ _ _ _ _ _ _ _ _ _ hq _ hv h4v hl4).mono ?_
      rintro e w2 ⟨rfl, hb2⟩
      have HB2 := bUp HB1 hb2 HB1.size
      obtain ⟨f0, f1, f2, fz⟩ := bx.below hb2
      go_wp2_with fail
      refine (l6Claims_is _ _ _ _ _ _ _ _ _ _ _ _ _ (clsB_3 (mk_of_hl HQ.out) hc) _ (h.below HB2 (Nat.le_refl _)) (h7.below HB2 (Nat.le_refl _)) hl7).mono ?_
      rintro e w3 ⟨rfl, hb3⟩
      go_wp2
      go_ret2
      exact ⟨rfl, bUp HB2 hb3 HB2.size⟩
    · have HD := Lib.hid (dcB_2 hq hc)
      have HC := Lib.hid hc
      have hle := enTo_len P P.length
      change (endL P).length ≤ _ at hle
      have hn2 := (hlB_yes hq).1.n2
      rw [HD.out]
      go_enter Try.func26, Try.ntmps26
      go_wp2_with fail
      refine (l6Holds_is _ _ _ _ _ _ _ _ _ _ _ _ _ _ hq _ hv h4v hl4).mono ?_
      rintro e w2 ⟨rfl, hb2⟩
      have HB2 := bUp HB1 hb2 HB1.size
      have bx2 := bx.below hb2
      obtain ⟨f0, f1, f2, fz⟩ := id bx2
      go_wp2_with fail
      refine (l6Claims_is _ _ _ _ _ _ _ _ _ _ _ _ _ (clsB_3 (mk_of_hl HQ.out) hc) _ (h.below HB2 (Nat.le_refl _)) (h7.below HB2 (Nat.le_refl _)) hl7).mono ?_
      rintro e w3 ⟨rfl, hb3⟩
      have HB3 := bUp HB2 hb3 HB2.size
      clear f0 f1 f2 fz
      obtain ⟨f0, f1, f2, fz⟩ := bx2.below hb3
      clear hq hc bx bx2 hb2 hv h4v h7v
      go_wp2_with fail
      refine (l6Gaps_c _ _ _ _ _ _ _ _ _ _ _ _ _ _ _ _ _ (h.below HB3 (Nat.le_refl _)) (h4.below HB3 (Nat.le_refl _)) (h7.below HB3 (Nat.le_refl _)) HQ.out HC.out).mono ?_
      rintro e w4 ⟨Ag, cg, rfl, og, hb4⟩
      have HB4 := bUp HB3 hb4 HB3.size
      rw [gapTo_length]
      have hr := og.rd
      clear og hb3 hb4 f0 f1 f2 fz
      go_wp2
      go_loop [11] (fun i => ∃ k : Nat, k ≤ (endL P).length ∧ i = .int .i64 (k : Int) ∧ ∀ j, j < k → prC (wlE P F H s j) (nth C j) = true) (fun i => (endL P).length - (intOf i).toNat)
      case atStart => exact ⟨0, by omega, rfl, fun j hj => by omega⟩
      case round =>
        obtain ⟨k, hk, rfl, hall⟩ := hrel
        have HA := Lib.hid hall
        clear hall
        by_cases hlt : k < (endL P).length
        · obtain ⟨a, rfl, hca⟩ := hr.intN (k := k) (by rw [gapTo_length]; exact hlt)
          rw [gapTo_nth hlt] at hca
          cases hp : prC (wlE P F H s k) (nth C k)
          · have HN := Lib.hid (dcV_at (W := W) hlt hp)
            have hp2 : wlE P F H s k - nth C k < 0 := by simp [prC] at hp; omega
            clear hp
            go_wp2
            go_ret2
            exact ⟨by rw [HN.out] <;> rfl, HB4⟩
          · have HN : Hid (∀ j, j < k + 1 → prC (wlE P F H s j) (nth C j) = true) := Lib.hid fun j hj => by
              rcases Nat.lt_or_ge j k with h' | h'
              · exact HA.out j h'
              · rw [show j = k by omega]; exact hp
            have hp2 : ¬ wlE P F H s k - nth C k < 0 := by simp [prC] at hp; omega
            clear hp
            go_wp2
            go_round
            case rel => exact ⟨k + 1, by omega, by go_num, HN.out⟩
            case measure => simp [intOf] <;> omega
        · have HN := Lib.hid (dcV_all (pr := prC) HD.out fun k hk => HA.out k (by omega))
          go_wp2
          go_ret2
          exact ⟨by rw [HN.out] <;> rfl, HB4⟩
set_option maxRecDepth 20000 in
set_option maxHeartbeats 1000000 in
theorem specDoMatchClaims_c (A1 : Option Addr) (P : List Int) (c1 : Nat) (A2 : Option Addr) (W : List Int) (c2 : Nat) (A3 : Option Addr) (F : List Int) (c3 : Nat) (s : Int) (A4 : Option Addr) (H : List Int) (c4 : Nat) (A7 : Option Addr) (C : List Int) (c7 : Nat) (w : World) (h : RdM w A1 P A2 W A3 F) (h4 : Rd w A4 (ints H)) (h7 : Rd w A7 (ints C)) (hl4 : H.length ≤ 16777216) (hl7 : C.length ≤ 16777216) :
    Calls Try.prog 28 #[mkV A1 P.length c1 A2 W.length c2 A3 F.length c3, .int .i64 s, .slice A4 H.length c4, .slice A7 C.length c7] w (Quietly w (.tuple #[.bool (dcV prM P W F H C s), .bool (dcB P W F H C s)])) := by
  have HB1 : Below w.heap.size w (w.alloc (.cells #[.slice A1 P.length c1, .slice A2 W.length c2, .slice A3 F.length c3] 32)) := (Below.refl _ _).alloc (Nat.le_refl _) _
  have bx := Bx3.new w (.slice A1 P.length c1) (.slice A2 W.length c2) (.slice A3 F.length c3) 32
  have hv := h.below HB1 (Nat.le_refl _)
  have h4v := h4.below HB1 (Nat.le_refl _)
  have h7v := h7.below HB1 (Nat.le_refl _)
  cases hq : hlB P W F H s
  · have HD := Lib.hid (dcB_1 (C := C) hq)
    rw [dcV_no HD.out, HD.out]
    go_enter Try.func28, Try.ntmps28
    go_wp2_with fail
    refine (l6Holds_is _ _ _ _ _ _ _ _ _ _ _ _ _ _ hq _ hv h4v hl4).mono ?_
    rintro e w2 ⟨rfl, hb2⟩
    go_wp2
    go_ret2
    exact ⟨rfl, bUp HB1 hb2 HB1.size⟩
  · have HQ := Lib.hid hq
    cases hc : clmB P C
    · have HD := Lib.hid (dcB_2 hq hc)
      rw [dcV_no HD.out, HD.out]
      go_enter Try.func28, Try.ntmps28
      go_wp2_with fail
      refine (l6Holds_is _ _ _ _ _ _ _ _ _ _ _ _ _ _ hq _ hv h4v hl4).mono ?_
      rintro e w2 ⟨rfl, hb2⟩
      have HB2 := bUp HB1 hb2 HB1.size
      obtain ⟨f0, f1, f2, fz⟩ := bx.below hb2
      go_wp2_with fail
      refine (l6Claims_is _ _ _ _ _ _ _ _ _ _ _ _ _ (clsB_3 (mk_of_hl HQ.out) hc) _ (h.below HB2 (Nat.le_refl _)) (h7.below HB2 (Nat.le_refl _)) hl7).mono ?_
      rintro e w3 ⟨rfl, hb3⟩
      go_wp2
      go_ret2
      exact ⟨rfl, bUp HB2 hb3 HB2.size⟩
    · have HD := Lib.hid (dcB_2 hq hc)
      have HC := Lib.hid hc
      have hle := enTo_len P P.length
      change (endL P).length ≤ _ at hle
      have hn2 := (hlB_yes hq).1.n2
      rw [HD.out]
      go_enter Try.func28, Try.ntmps28
      go_wp2_with fail
      refine (l6Holds_is _ _ _ _ _ _ _ _ _ _ _ _ _ _ hq _ hv h4v hl4).mono ?_
      rintro e w2 ⟨rfl, hb2⟩
      have HB2 := bUp HB1 hb2 HB1.size
      have bx2 := bx.below hb2
      obtain ⟨f0, f1, f2, fz⟩ := id bx2
      go_wp2_with fail
      refine (l6Claims_is _ _ _ _ _ _ _ _ _ _ _ _ _ (clsB_3 (mk_of_hl HQ.out) hc) _ (h.below HB2 (Nat.le_refl _)) (h7.below HB2 (Nat.le_refl _)) hl7).mono ?_
      rintro e w3 ⟨rfl, hb3⟩
      have HB3 := bUp HB2 hb3 HB2.size
      clear f0 f1 f2 fz
      obtain ⟨f0, f1, f2, fz⟩ := bx2.below hb3
      clear hq hc bx bx2 hb2 hv h4v h7v
      go_wp2_with fail
      refine (l6Gaps_c _ _ _ _ _ _ _ _ _ _ _ _ _ _ _ _ _ (h.below HB3 (Nat.le_refl _)) (h4.below HB3 (Nat.le_refl _)) (h7.below HB3 (Nat.le_refl _)) HQ.out HC.out).mono ?_
      rintro e w4 ⟨Ag, cg, rfl, og, hb4⟩
      have HB4 := bUp HB3 hb4 HB3.size
      rw [gapTo_length]
      have hr := og.rd
      clear og hb3 hb4 f0 f1 f2 fz
      go_wp2
      go_loop [11] (fun i => ∃ k : Nat, k ≤ (endL P).length ∧ i = .int .i64 (k : Int) ∧ ∀ j, j < k → prM (wlE P F H s j) (nth C j) = true) (fun i => (endL P).length - (intOf i).toNat)
      case atStart => exact ⟨0, by omega, rfl, fun j hj => by omega⟩
      case round =>
        obtain ⟨k, hk, rfl, hall⟩ := hrel
        have HA := Lib.hid hall
        clear hall
        by_cases hlt : k < (endL P).length
        · obtain ⟨a, rfl, hca⟩ := hr.intN (k := k) (by rw [gapTo_length]; exact hlt)
          rw [gapTo_nth hlt] at hca
          cases hp : prM (wlE P F H s k) (nth C k)
          · have HN := Lib.hid (dcV_at (W := W) hlt hp)
            have hp2 : (wlE P F H s k - nth C k != 0) = true := by simp [prM] at hp ⊢; omega
            clear hp
            go_wp2
            go_ret2
            exact ⟨by rw [HN.out] <;> rfl, HB4⟩
          · have HN : Hid (∀ j, j < k + 1 → prM (wlE P F H s j) (nth C j) = true) := Lib.hid fun j hj => by
              rcases Nat.lt_or_ge j k with h' | h'
              · exact HA.out j h'
              · rw [show j = k by omega]; exact hp
            have hp2 : (wlE P F H s k - nth C k != 0) = false := by simp [prM] at hp ⊢; omega
            clear hp
            go_wp2
            go_round
            case rel => exact ⟨k + 1, by omega, by go_num, HN.out⟩
            case measure => simp [intOf] <;> omega
        · have HN := Lib.hid (dcV_all (pr := prM) HD.out fun k hk => HA.out k (by omega))
          go_wp2
          go_ret2
          exact ⟨by rw [HN.out] <;> rfl, HB4⟩
set_option maxRecDepth 20000 in
set_option maxHeartbeats 1000000 in
theorem claimedDoCoverClaims_c (A1 : Option Addr) (P : List Int) (c1 : Nat) (A2 : Option Addr) (W : List Int) (c2 : Nat) (A3 : Option Addr) (F : List Int) (c3 : Nat) (s : Int) (A4 : Option Addr) (H : List Int) (c4 : Nat) (A7 : Option Addr) (C : List Int) (c7 : Nat) (w : World) (h : RdM w A1 P A2 W A3 F) (h4 : Rd w A4 (ints H)) (h7 : Rd w A7 (ints C)) (hl4 : H.length ≤ 16777216) (hl7 : C.length ≤ 16777216) :
    Calls Try.prog 97 #[mkV A1 P.length c1 A2 W.length c2 A3 F.length c3, .int .i64 s, .slice A4 H.length c4, .slice A7 C.length c7, .func (Fn.func 98) #[] #[]] w (Quietly w (.tuple #[.bool (dcV prC P W F H C s), .bool (dcB P W F H C s)])) := by
  have HB1 : Below w.heap.size w (w.alloc (.cells #[.slice A1 P.length c1, .slice A2 W.length c2, .slice A3 F.length c3] 32)) := (Below.refl _ _).alloc (Nat.le_refl _) _
  have bx := Bx3.new w (.slice A1 P.length c1) (.slice A2 W.length c2) (.slice A3 F.length c3) 32
  have hv := h.below HB1 (Nat.le_refl _)
  have h4v := h4.below HB1 (Nat.le_refl _)
  have CW := implWh_c A1 P c1 A2 W c2 A3 F c3 s A4 H c4 _ hv h4v hl4
  cases hq : hlB P W F H s
  · have HD := Lib.hid (dcB_1 (C := C) hq)
    rw [dcV_no HD.out, HD.out]
    rw [hq] at CW
    go_enter Try.func97, Try.ntmps97
    go_wp2_with fail
    refine CW.mono ?_
    rintro e w2 ⟨Aw, cw, rfl, ow, hb2⟩
    go_wp2
    go_ret2
    exact ⟨rfl, bUp HB1 hb2 HB1.size⟩
  · have HQ := Lib.hid hq
    have hwl := whV_length P W F H s
    have HWE := Lib.hid (whV_yes hq)
    rw [hq] at CW
    cases hc : clmB P C
    · have HD := Lib.hid (dcB_2 hq hc)
      rw [dcV_no HD.out, HD.out]
      go_enter Try.func97, Try.ntmps97
      go_wp2_with fail
      refine CW.mono ?_
      rintro e w2 ⟨Aw, cw, rfl, ow, hb2⟩
      have HB2 := bUp HB1 hb2 HB1.size
      obtain ⟨f0, f1, f2, fz⟩ := bx.below hb2
      go_wp2_with fail
      refine (areClaims_is _ _ _ _ _ _ _ _ _ _ _ _ _ hc _ (h.below HB2 (Nat.le_refl _)) (h7.below HB2 (Nat.le_refl _)) hl7 (mk_of_hl HQ.out)).mono ?_
      rintro e w3 ⟨rfl, hb3⟩
      go_wp2
      go_ret2
      exact ⟨rfl, bUp HB2 hb3 HB2.size⟩
    · have HD := Lib.hid (dcB_2 hq hc)
      have HCL : Hid (C.length = (endL P).length) := Lib.hid (by simp only [clmB, Bool.and_eq_true, decide_eq_true_eq] at hc; exact hc.1)
      have hle := enTo_len P P.length
      change (endL P).length ≤ _ at hle
      have HK := Lib.hid (hlB_yes hq)
      have hn2 := HK.out.1.n2
      have HWL : Hid ((whV P W F H s).length = P.length) := Lib.hid (by rw [HWE.out, wl, wlL_length]; have := HK.out.1.n1; omega)
      rw [HD.out]
      go_enter Try.func97, Try.ntmps97
      go_wp2_with fail
      refine CW.mono ?_
      rintro e w2 ⟨Aw, cw, rfl, ow, hb2⟩
      have HB2 := bUp HB1 hb2 HB1.size
      have bx2 := bx.below hb2
      obtain ⟨f0, f1, f2, fz⟩ := id bx2
      go_wp2_with fail
      refine (areClaims_is _ _ _ _ _ _ _ _ _ _ _ _ _ hc _ (h.below HB2 (Nat.le_refl _)) (h7.below HB2 (Nat.le_refl _)) hl7 (mk_of_hl HQ.out)).mono ?_
      rintro e w3 ⟨rfl, hb3⟩
      have HB3 := bUp HB2 hb3 HB2.size
      have ow3 := ow.below hb3
      clear f0 f1 f2 fz
      obtain ⟨f0, f1, f2, fz⟩ := bx2.below hb3
      clear hq hc bx bx2 hb2 hb3 hv h4v CW ow
      go_wp2_with fail
      refine (ends_c _ _ _ _ _ _ _ (h.below HB3 (Nat.le_refl _)).r1 HK.out.1.par HK.out.1.n1 HK.out.1.n2).mono ?_
      rintro e w4 ⟨Ae, ce, rfl, oe, hb4⟩
      have HB4 := bUp HB3 hb4 HB3.size
      have ow4 := ow3.below hb4
      have hrw := ow4.rd
      have hre := oe.rd
      have h7w := h7.below HB4 (Nat.le_refl _)
      clear f0 f1 f2 fz ow3 ow4 oe hb4
      go_wp2
      go_loopw [35] (fun i wr => ∃ k : Nat, k ≤ (endL P).length ∧ i = .int .i64 (k : Int) ∧ Dr w4 wr ∧ ∀ j, j < k → prC (wlE P F H s j) (nth C j) = true) (fun i _ => (endL P).length - (intOf i).toNat)
      case atStart => exact ⟨0, by omega, rfl, Dr.refl _, fun j hj => by omega⟩
      case round =>
        obtain ⟨k, hk, rfl, hdr, hall⟩ := hrel
        have HA := Lib.hid hall
        clear hall
        by_cases hlt : k < (endL P).length
        · obtain ⟨a6, rfl, q6⟩ := (hre.dr hdr).intN hlt
          obtain ⟨j, hj, hje, hjn⟩ := endL_nth hlt
          have HV := Lib.hid (whV_nth (W := W) (F := F) (H := H) (s := s) HQ.out hjn)
          rw [hjn] at q6
          obtain ⟨a5, rfl, q5⟩ := (hrw.dr hdr).intN (k := j) (by rw [HWL.out]; exact hj)
          obtain ⟨a7, rfl, q7⟩ := (h7w.dr hdr).intN (k := k) (by rw [HCL.out]; exact hlt)
          rw [HV.out] at q5
          have i1 : (0 : Int) ≤ (k : Int) := by omega
          have i2 : (k : Int) < ((endL P).length : Int) := by omega
          have i3 : (0 : Int) ≤ (j : Int) := by omega
          have i4 : (j : Int) < ((whV P W F H s).length : Int) := by have := HWL.out; omega
          have i5 : (k : Int) < (C.length : Int) := by have := HCL.out; omega
          clear hjn
          go_wp2
          refine wp_region_still_tail 9 (by kernel_rfl) (by kernel_rfl) ?_
          simp only [List.take_succ_cons, List.take_zero, List.drop_succ_cons, List.drop_zero]
          repeat still_step
          refine wpStill_nil ?_
          change wpList _ _ _ _ _ wr.drew
          have h2 := hdr.below HB4
          cases hp : prC (wlE P F H s k) (nth C k)
          · have HN := Lib.hid (dcV_at (W := W) hlt hp)
            clear q5 q6 q7
            go_wp2_with fail
            refine (DoCoverClaims_fn _ _ _).mono ?_
            rintro e w5 ⟨rfl, rfl⟩
            rw [hp]
            clear hp
            go_wp2
            go_ret2
            exact ⟨by rw [HN.out] <;> rfl, h2.drew⟩
          · have HN : Hid (∀ j, j < k + 1 → prC (wlE P F H s j) (nth C j) = true) := Lib.hid fun j hj => by
              rcases Nat.lt_or_ge j k with h' | h'
              · exact HA.out j h'
              · rw [show j = k by omega]; exact hp
            have hd2 := hdr.drew
            clear q5 q6 q7
            go_wp2_with fail
            refine (DoCoverClaims_fn _ _ _).mono ?_
            rintro e w5 ⟨rfl, rfl⟩
            rw [hp]
            clear hp
            go_wp2
            go_roundw
            case rel => exact ⟨k + 1, by omega, by go_num, hd2, HN.out⟩
            case measure => simp [intOf] <;> omega
        · have HN := Lib.hid (dcV_all (pr := prC) HD.out fun k hk => HA.out k (by omega))
          go_wp2
          go_ret2
          exact ⟨by rw [HN.out] <;> rfl, hdr.below HB4⟩
theorem implDoCoverClaims_c (A1 : Option Addr) (P : List Int) (c1 : Nat) (A2 : Option Addr) (W : List Int) (c2 : Nat) (A3 : Option Addr) (F : List Int) (c3 : Nat) (s : Int) (A4 : Option Addr) (H : List Int) (c4 : Nat) (A7 : Option Addr) (C : List Int) (c7 : Nat) (w : World) (h : RdM w A1 P A2 W A3 F) (h4 : Rd w A4 (ints H)) (h7 : Rd w A7 (ints C)) (hl4 : H.length ≤ 16777216) (hl7 : C.length ≤ 16777216) :
    Calls Try.prog 27 #[mkV A1 P.length c1 A2 W.length c2 A3 F.length c3, .int .i64 s, .slice A4 H.length c4, .slice A7 C.length c7] w (Quietly w (.tuple #[.bool (dcV prC P W F H C s), .bool (dcB P W F H C s)])) := by
  have HB1 : Below w.heap.size w (w.alloc (.cells #[.slice A1 P.length c1, .slice A2 W.length c2, .slice A3 F.length c3] 32)) := (Below.refl _ _).alloc (Nat.le_refl _) _
  have hv := h.below HB1 (Nat.le_refl _)
  have h4v := h4.below HB1 (Nat.le_refl _)
  go_enter Try.func27, Try.ntmps27
  go_wp2_with fail
  refine (claimedDoCoverClaims_c _ _ _ _ _ _ _ _ _ _ _ _ _ _ _ _ _ hv h4v (h7.below HB1 (Nat.le_refl _)) hl4 hl7).mono ?_
  rintro e w2 ⟨rfl, hb2⟩
  go_wp2
  go_ret2
  exact ⟨rfl, bUp HB1 hb2 HB1.size⟩
set_option maxRecDepth 20000 in
set_option maxHeartbeats 1000000 in
theorem claimedDoMatchClaims_c (A1 : Option Addr) (P : List Int) (c1 : Nat) (A2 : Option Addr) (W : List Int) (c2 : Nat) (A3 : Option Addr) (F : List Int) (c3 : Nat) (s : Int) (A4 : Option Addr) (H : List Int) (c4 : Nat) (A7 : Option Addr) (C : List Int) (c7 : Nat) (w : World) (h : RdM w A1 P A2 W A3 F) (h4 : Rd w A4 (ints H)) (h7 : Rd w A7 (ints C)) (hl4 : H.length ≤ 16777216) (hl7 : C.length ≤ 16777216) :
    Calls Try.prog 97 #[mkV A1 P.length c1 A2 W.length c2 A3 F.length c3, .int .i64 s, .slice A4 H.length c4, .slice A7 C.length c7, .func (Fn.func 99) #[] #[]] w (Quietly w (.tuple #[.bool (dcV prM P W F H C s), .bool (dcB P W F H C s)])) := by
  have HB1 : Below w.heap.size w (w.alloc (.cells #[.slice A1 P.length c1, .slice A2 W.length c2, .slice A3 F.length c3] 32)) := (Below.refl _ _).alloc (Nat.le_refl _) _
  have bx := Bx3.new w (.slice A1 P.length c1) (.slice A2 W.length c2) (.slice A3 F.length c3) 32
  have hv := h.below HB1 (Nat.le_refl _)
  have h4v := h4.below HB1 (Nat.le_refl _)
  have CW := implWh_c A1 P c1 A2 W c2 A3 F c3 s A4 H c4 _ hv h4v hl4
  cases hq : hlB P W F H s
  · have HD := Lib.hid (dcB_1 (C := C) hq)
    rw [dcV_no HD.out, HD.out]
    rw [hq] at CW
    go_enter Try.func97, Try.ntmps97
    go_wp2_with fail
    refine CW.mono ?_
    rintro e w2 ⟨Aw, cw, rfl, ow, hb2⟩
    go_wp2
    go_ret2
    exact ⟨rfl, bUp HB1 hb2 HB1.size⟩
  · have HQ := Lib.hid hq
    have hwl := whV_length P W F H s
    have HWE := Lib.hid (whV_yes hq)
    rw [hq] at CW
    cases hc : clmB P C
    · have HD := Lib.hid (dcB_2 hq hc)
      rw [dcV_no HD.out, HD.out]
      go_enter Try.func97, Try.ntmps97
      go_wp2_with fail
      refine CW.mono ?_
      rintro e w2 ⟨Aw, cw, rfl, ow, hb2⟩
      have HB2 := bUp HB1 hb2 HB1.size
      obtain ⟨f0, f1, f2, fz⟩ := bx.below hb2
      go_wp2_with fail
      refine (areClaims_is _ _ _ _ _ _ _ _ _ _ _ _ _ hc _ (h.below HB2 (Nat.le_refl _)) (h7.below HB2 (Nat.le_refl _)) hl7 (mk_of_hl HQ.out)).mono ?_
      rintro e w3 ⟨rfl, hb3⟩
      go_wp2
      go_ret2
      exact ⟨rfl, bUp HB2 hb3 HB2.size⟩
    · have HD := Lib.hid (dcB_2 hq hc)
      have HCL : Hid (C.length = (endL P).length) := Lib.hid (by simp only [clmB, Bool.and_eq_true, decide_eq_true_eq] at hc; exact hc.1)
      have hle := enTo_len P P.length
      change (endL P).length ≤ _ at hle
      have HK := Lib.hid (hlB_yes hq)
      have hn2 := HK.out.1.n2
      have HWL : Hid ((whV P W F H s).length = P.length) := Lib.hid (by rw [HWE.out, wl, wlL_length]; have := HK.out.1.n1; omega)
      rw [HD.out]
      go_enter Try.func97, Try.ntmps97
      go_wp2_with fail
      refine CW.mono ?_
      rintro e w2 ⟨Aw, cw, rfl, ow, hb2⟩
      have HB2 := bUp HB1 hb2 HB1.size
      have bx2 := bx.below hb2
      obtain ⟨f0, f1, f2, fz⟩ := id bx2
      go_wp2_with fail
      refine (areClaims_is _ _ _ _ _ _ _ _ _ _ _ _ _ hc _ (h.below HB2 (Nat.le_refl _)) (h7.below HB2 (Nat.le_refl _)) hl7 (mk_of_hl HQ.out)).mono ?_
      rintro e w3 ⟨rfl, hb3⟩
      have HB3 := bUp HB2 hb3 HB2.size
      have ow3 := ow.below hb3
      clear f0 f1 f2 fz
      obtain ⟨f0, f1, f2, fz⟩ := bx2.below hb3
      clear hq hc bx bx2 hb2 hb3 hv h4v CW ow
      go_wp2_with fail
      refine (ends_c _ _ _ _ _ _ _ (h.below HB3 (Nat.le_refl _)).r1 HK.out.1.par HK.out.1.n1 HK.out.1.n2).mono ?_
      rintro e w4 ⟨Ae, ce, rfl, oe, hb4⟩
      have HB4 := bUp HB3 hb4 HB3.size
      have ow4 := ow3.below hb4
      have hrw := ow4.rd
      have hre := oe.rd
      have h7w := h7.below HB4 (Nat.le_refl _)
      clear f0 f1 f2 fz ow3 ow4 oe hb4
      go_wp2
      go_loopw [35] (fun i wr => ∃ k : Nat, k ≤ (endL P).length ∧ i = .int .i64 (k : Int) ∧ Dr w4 wr ∧ ∀ j, j < k → prM (wlE P F H s j) (nth C j) = true) (fun i _ => (endL P).length - (intOf i).toNat)
      case atStart => exact ⟨0, by omega, rfl, Dr.refl _, fun j hj => by omega⟩
      case round =>
        obtain ⟨k, hk, rfl, hdr, hall⟩ := hrel
        have HA := Lib.hid hall
        clear hall
        by_cases hlt : k < (endL P).length
        · obtain ⟨a6, rfl, q6⟩ := (hre.dr hdr).intN hlt
          obtain ⟨j, hj, hje, hjn⟩ := endL_nth hlt
          have HV := Lib.hid (whV_nth (W := W) (F := F) (H := H) (s := s) HQ.out hjn)
          rw [hjn] at q6
          obtain ⟨a5, rfl, q5⟩ := (hrw.dr hdr).intN (k := j) (by rw [HWL.out]; exact hj)
          obtain ⟨a7, rfl, q7⟩ := (h7w.dr hdr).intN (k := k) (by rw [HCL.out]; exact hlt)
          rw [HV.out] at q5
          have i1 : (0 : Int) ≤ (k : Int) := by omega
          have i2 : (k : Int) < ((endL P).length : Int) := by omega
          have i3 : (0 : Int) ≤ (j : Int) := by omega
          have i4 : (j : Int) < ((whV P W F H s).length : Int) := by have := HWL.out; omega
          have i5 : (k : Int) < (C.length : Int) := by have := HCL.out; omega
          clear hjn
          go_wp2
          refine wp_region_still_tail 9 (by kernel_rfl) (by kernel_rfl) ?_
          simp only [List.take_succ_cons, List.take_zero, List.drop_succ_cons, List.drop_zero]
          repeat still_step
          refine wpStill_nil ?_
          change wpList _ _ _ _ _ wr.drew
          have h2 := hdr.below HB4
          cases hp : prM (wlE P F H s k) (nth C k)
          · have HN := Lib.hid (dcV_at (W := W) hlt hp)
            clear q5 q6 q7
            go_wp2_with fail
            refine (DoMatchClaims_fn _ _ _).mono ?_
            rintro e w5 ⟨rfl, rfl⟩
            rw [hp]
            clear hp
            go_wp2
            go_ret2
            exact ⟨by rw [HN.out] <;> rfl, h2.drew⟩
          · have HN : Hid (∀ j, j < k + 1 → prM (wlE P F H s j) (nth C j) = true) := Lib.hid fun j hj => by
              rcases Nat.lt_or_ge j k with h' | h'
              · exact HA.out j h'
              · rw [show j = k by omega]; exact hp
            have hd2 := hdr.drew
            clear q5 q6 q7
            go_wp2_with fail
            refine (DoMatchClaims_fn _ _ _).mono ?_
            rintro e w5 ⟨rfl, rfl⟩
            rw [hp]
            clear hp
            go_wp2
            go_roundw
            case rel => exact ⟨k + 1, by omega, by go_num, hd2, HN.out⟩
            case measure => simp [intOf] <;> omega
        · have HN := Lib.hid (dcV_all (pr := prM) HD.out fun k hk => HA.out k (by omega))
          go_wp2
          go_ret2
          exact ⟨by rw [HN.out] <;> rfl, hdr.below HB4⟩
theorem implDoMatchClaims_c (A1 : Option Addr) (P : List Int) (c1 : Nat) (A2 : Option Addr) (W : List Int) (c2 : Nat) (A3 : Option Addr) (F : List Int) (c3 : Nat) (s : Int) (A4 : Option Addr) (H : List Int) (c4 : Nat) (A7 : Option Addr) (C : List Int) (c7 : Nat) (w : World) (h : RdM w A1 P A2 W A3 F) (h4 : Rd w A4 (ints H)) (h7 : Rd w A7 (ints C)) (hl4 : H.length ≤ 16777216) (hl7 : C.length ≤ 16777216) :
    Calls Try.prog 29 #[mkV A1 P.length c1 A2 W.length c2 A3 F.length c3, .int .i64 s, .slice A4 H.length c4, .slice A7 C.length c7] w (Quietly w (.tuple #[.bool (dcV prM P W F H C s), .bool (dcB P W F H C s)])) := by
  have HB1 : Below w.heap.size w (w.alloc (.cells #[.slice A1 P.length c1, .slice A2 W.length c2, .slice A3 F.length c3] 32)) := (Below.refl _ _).alloc (Nat.le_refl _) _
  have hv := h.below HB1 (Nat.le_refl _)
  have h4v := h4.below HB1 (Nat.le_refl _)
  go_enter Try.func29, Try.ntmps29
  go_wp2_with fail
  refine (claimedDoMatchClaims_c _ _ _ _ _ _ _ _ _ _ _ _ _ _ _ _ _ hv h4v (h7.below HB1 (Nat.le_refl _)) hl4 hl7).mono ?_
  rintro e w2 ⟨rfl, hb2⟩
  go_wp2
  go_ret2
  exact ⟨rfl, bUp HB1 hb2 HB1.size⟩
end Go.Proofs.Ytebobechpdpfbaa
