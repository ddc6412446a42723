/- FreeGain: the program's walk. -/
import Derived.Test.YtnhclpajfejnoaaFgW
namespace Go.Proofs.Ytnhclpajfejnoaa
open Go.RowKit

def fgB (P W F : List Int) : Bool := mktB P W F && decide (unK P F ≠ -1)
def fgV (P W F : List Int) : List Int := if fgB P W F then gainL P F else []
theorem fgV_no {P W F : List Int} (h : fgB P W F = false) : fgV P W F = [] := by simp [fgV, h]
theorem fgV_yes {P W F : List Int} (h : fgB P W F = true) : fgV P W F = gainL P F := by simp [fgV, h]
theorem gainL_length (P F : List Int) : (gainL P F).length = P.length := by simp [gainL]
theorem fgB_1 {P W F : List Int} (h : mktB P W F = false) : fgB P W F = false := by simp [fgB, h]
theorem fgB_2 {P W F : List Int} (h : unK P F = -1) : fgB P W F = false := by simp [fgB, h]
theorem fgB_3 {P W F : List Int} {k : Nat} (hm : mktB P W F = true) (h : unK P F = (k : Int)) : fgB P W F = true := by simp [fgB, hm, h]
theorem fgV_length (P W F : List Int) : (fgV P W F).length ≤ 24 := by
  cases h : fgB P W F
  · rw [fgV_no h]; simp
  · rw [fgV_yes h, gainL_length]
    simp only [fgB, Bool.and_eq_true] at h
    exact (mktB_iff.1 h.1).1.n2
theorem gain_1 {P F : List Int} {k : Nat} (h : unK P F = (k : Int)) (hl : 0 < (lessL P F k).length) : gainL P F = ((List.replicate P.length 0).set k 1).set k (-1) := by
  rw [gainL, h, Int.toNat_natCast, if_pos hl, List.set_set]
theorem gain_0 {P F : List Int} {k : Nat} (h : unK P F = (k : Int)) (hl : ¬ 0 < (lessL P F k).length) : gainL P F = (List.replicate P.length 0).set k 1 := by
  rw [gainL, h, Int.toNat_natCast, if_neg hl]
theorem unB_iff {P F : List Int} {x : Nat} : unB P F x = (decide (0 < (lessL P F x).length) != decide (0 < (moreL P F x).length)) := rfl

set_option maxRecDepth 20000 in
set_option maxHeartbeats 1000000 in
theorem uneven_c (A1 : Option Addr) (P : List Int) (c1 : Nat) (A2 : Option Addr) (n2 c2 : Nat) (A3 : Option Addr) (F : List Int) (c3 : Nat) (w : World) (h1 : Rd w A1 (ints P)) (h3 : Rd w A3 (ints F)) (hn : P.length ≤ 24) (hF : F.length = P.length) :
    Calls Try.prog 79 #[mkV A1 P.length c1 A2 n2 c2 A3 F.length c3] w (Quietly w (.int .i64 (unK P F))) := by
  have HB1 : Below w.heap.size w (w.alloc (.cells #[.slice A1 P.length c1, .slice A2 n2 c2, .slice A3 F.length c3] 28)) := (Below.refl _ _).alloc (Nat.le_refl _) _
  have bx := Bx3.new w (.slice A1 P.length c1) (.slice A2 n2 c2) (.slice A3 F.length c3) 28
  have HF := Lib.hid hF
  have hf24 : F.length ≤ 24 := by omega
  clear hF
  go_enter Try.func79, Try.ntmps79
  go_wp2
  go_loopw [10] (fun i wr => ∃ k : Nat, k ≤ F.length ∧ i = .int .i64 (k : Int) ∧ (∀ j, j < k → unB P F j = false) ∧ Bx3 wr w.heap.size (.slice A1 P.length c1) (.slice A2 n2 c2) (.slice A3 F.length c3) ∧ Below w.heap.size w wr) (fun i _ => F.length - (intOf i).toNat)
  case atStart => exact ⟨0, by omega, rfl, fun j hj => by omega, bx, HB1⟩
  case round =>
    obtain ⟨k, hk, rfl, hall, hx, hB⟩ := hrel
    clear HB1 bx
    have HA := Lib.hid hall
    clear hall
    have hx' := hx
    obtain ⟨f0, f1, f2, fz⟩ := hx
    by_cases hlt : k < F.length
    · go_wp2_with fail
      refine (beside_c A1 P c1 A2 n2 c2 A3 F c3 k _ (h1.below hB (Nat.le_refl _)) (h3.below hB (Nat.le_refl _)) hn HF.out (by have := HF.out; omega)).mono ?_
      rintro e w2 ⟨A5, c5, A6, c6, A7, c7, rfl, _, _, _, hb2⟩
      have HB2 := bUp hB hb2 hB.size
      have hx2 := hx'.below hb2
      clear f0 f1 f2 fz hb2
      have hu : unB P F k = (decide (0 < (lessL P F k).length) != decide (0 < (moreL P F k).length)) := rfl
      have HU := Lib.hid hu
      clear hu
      cases hub : unB P F k
      · have HN : Hid (∀ j, j < k + 1 → unB P F j = false) := Lib.hid fun j hj => by
          rcases Nat.lt_or_ge j k with h' | h'
          · exact HA.out j h'
          · rw [show j = k by omega]; exact hub
        have HUB := Lib.hid hub
        clear hub
        by_cases hl : 0 < (lessL P F k).length <;> by_cases hm : 0 < (moreL P F k).length
        · go_wp2
          go_roundw
          case rel => exact ⟨k + 1, by omega, by go_num, HN.out, hx2, HB2⟩
          case measure => simp [intOf] <;> omega
        · have := HU.out; rw [HUB.out, decide_eq_true hl, decide_eq_false hm] at this; cases this
        · have := HU.out; rw [HUB.out, decide_eq_false hl, decide_eq_true hm] at this; cases this
        · go_wp2
          go_roundw
          case rel => exact ⟨k + 1, by omega, by go_num, HN.out, hx2, HB2⟩
          case measure => simp [intOf] <;> omega
      · have HN := Lib.hid (unK_eq (by have := HF.out; omega) hub HA.out)
        have HUB := Lib.hid hub
        clear hub
        by_cases hl : 0 < (lessL P F k).length <;> by_cases hm : 0 < (moreL P F k).length
        · have := HU.out; rw [HUB.out, decide_eq_true hl, decide_eq_true hm] at this; cases this
        · go_wp2
          go_ret
          exact ⟨by rw [HN.out] <;> rfl, HB2⟩
        · go_wp2
          go_ret
          exact ⟨by rw [HN.out] <;> rfl, HB2⟩
        · have := HU.out; rw [HUB.out, decide_eq_false hl, decide_eq_false hm] at this; cases this
    · have HN := Lib.hid (unK_none (P := P) (F := F) fun j hj => HA.out j (by have := HF.out; omega))
      go_wp2
      go_ret
      exact ⟨by rw [HN.out] <;> rfl, hB⟩

/-- The least node that is not even, and whether there is one. -/
theorem unevenNode_c (A1 : Option Addr) (P : List Int) (c1 : Nat) (A2 : Option Addr) (W : List Int) (c2 : Nat) (A3 : Option Addr) (F : List Int) (c3 : Nat) (w : World) (h : RdM w A1 P A2 W A3 F) :
    Calls Try.prog 26 #[mkV A1 P.length c1 A2 W.length c2 A3 F.length c3] w (Quietly w (.tuple #[.int .i64 (if fgB P W F then unK P F else 0), .bool (fgB P W F)])) := by
  have HB1 : Below w.heap.size w (w.alloc (.cells #[.slice A1 P.length c1, .slice A2 W.length c2, .slice A3 F.length c3] 28)) := (Below.refl _ _).alloc (Nat.le_refl _) _
  have bx := Bx3.new w (.slice A1 P.length c1) (.slice A2 W.length c2) (.slice A3 F.length c3) 28
  have hv := h.below HB1 (Nat.le_refl _)
  cases hm : mktB P W F
  · rw [fgB_1 hm]
    go_enter Try.func26, Try.ntmps26
    go_wp2_with fail
    refine (isMarket_is _ _ _ _ _ _ _ _ _ _ hm _ hv).mono ?_
    rintro e w2 ⟨rfl, hb2⟩
    go_wp2
    go_ret2
    exact ⟨rfl, bUp HB1 hb2 HB1.size⟩
  · have HM := Lib.hid (mktB_iff.1 hm)
    rcases unK_cases P F with ⟨hu, _⟩ | ⟨k, hk, hu, _⟩
    · rw [fgB_2 hu]
      go_enter Try.func26, Try.ntmps26
      go_wp2_with fail
      refine (isMarket_is _ _ _ _ _ _ _ _ _ _ hm _ hv).mono ?_
      rintro e w2 ⟨rfl, hb2⟩
      have HB2 := bUp HB1 hb2 HB1.size
      obtain ⟨f0, f1, f2, fz⟩ := bx.below hb2
      go_wp2_with fail
      refine (uneven_c _ _ _ _ _ _ _ _ _ _ (h.below HB2 (Nat.le_refl _)).r1 (h.below HB2 (Nat.le_refl _)).r3 HM.out.1.n2 HM.out.2.1).mono ?_
      rintro e w3 ⟨rfl, hb3⟩
      rw [hu]
      go_wp2
      go_ret2
      exact ⟨rfl, bUp HB2 hb3 HB2.size⟩
    · rw [fgB_3 hm hu, if_pos rfl, hu]
      go_enter Try.func26, Try.ntmps26
      go_wp2_with fail
      refine (isMarket_is _ _ _ _ _ _ _ _ _ _ hm _ hv).mono ?_
      rintro e w2 ⟨rfl, hb2⟩
      have HB2 := bUp HB1 hb2 HB1.size
      obtain ⟨f0, f1, f2, fz⟩ := bx.below hb2
      go_wp2_with fail
      refine (uneven_c _ _ _ _ _ _ _ _ _ _ (h.below HB2 (Nat.le_refl _)).r1 (h.below HB2 (Nat.le_refl _)).r3 HM.out.1.n2 HM.out.2.1).mono ?_
      rintro e w3 ⟨rfl, hb3⟩
      rw [hu]
      clear hu
      go_wp2
      go_ret2
      exact ⟨rfl, bUp HB2 hb3 HB2.size⟩

set_option maxRecDepth 20000 in
set_option maxHeartbeats 1000000 in
theorem implFg_c (A1 : Option Addr) (P : List Int) (c1 : Nat) (A2 : Option Addr) (W : List Int) (c2 : Nat) (A3 : Option Addr) (F : List Int) (c3 : Nat) (w : World) (h : RdM w A1 P A2 W A3 F) :
    Calls Try.prog 24 #[mkV A1 P.length c1 A2 W.length c2 A3 F.length c3] w (Gives w (fgV P W F) (fgB P W F)) := by
  have HB1 : Below w.heap.size w (w.alloc (.cells #[.slice A1 P.length c1, .slice A2 W.length c2, .slice A3 F.length c3] 28)) := (Below.refl _ _).alloc (Nat.le_refl _) _
  have bx := Bx3.new w (.slice A1 P.length c1) (.slice A2 W.length c2) (.slice A3 F.length c3) 28
  have hv := h.below HB1 (Nat.le_refl _)
  have C := unevenNode_c A1 P c1 A2 W c2 A3 F c3 _ hv
  cases hq : fgB P W F
  · rw [hq] at C
    rw [fgV_no hq]
    go_enter Try.func24, Try.ntmps24
    go_wp2_with fail
    refine C.mono ?_
    rintro e w2 ⟨rfl, hb2⟩
    go_wp2
    go_ret2
    exact ⟨_, _, rfl, Own.nil _ _, bUp HB1 hb2 HB1.size⟩
  · rw [hq] at C
    rw [fgV_yes hq]
    have hmk : mktB P W F = true := by simp only [fgB, Bool.and_eq_true] at hq; exact hq.1
    have HM := Lib.hid (mktB_iff.1 hmk)
    obtain ⟨k, hk, hu⟩ : ∃ k : Nat, k < P.length ∧ unK P F = (k : Int) := by
      rcases unK_cases P F with ⟨hu, _⟩ | ⟨k, hk, hu, _⟩
      · rw [fgB_2 hu] at hq; cases hq
      · exact ⟨k, hk, hu⟩
    rw [if_pos rfl, hu] at C
    have HU := Lib.hid hu
    have hn2 := HM.out.1.n2
    have hkF : k < F.length := by have := HM.out.2.1; omega
    have hfl : F.length ≤ 24 := by have := HM.out.2.1; omega
    clear hu hq hmk
    go_enter Try.func24, Try.ntmps24
    go_wp2_with fail
    refine C.mono ?_
    rintro e w2 ⟨rfl, hb2⟩
    have HB2 := bUp HB1 hb2 HB1.size
    have bx2 := bx.below hb2
    obtain ⟨f0, f1, f2, fz⟩ := id bx2
    clear C bx hv hb2
    go_wp2_with (at_make; refine wp_make_intsH _ w2.heap.size rfl rfl _ _ rfl _ _ _ _ F.length rfl rfl rfl rfl (by omega) ?_; intro w3 ho3 hb3; obtain ⟨u0, hco⟩ := ho3.some_ (k := k) (by simp; omega); have hfo := ho3.frozen k; have f0' := (bx2.below hb3).1; have f1' := (bx2.below hb3).2.1; have f2' := (bx2.below hb3).2.2.1)
    have HB3 := bUp HB2 hb3 HB2.size
    have hst := ho3.set k 1
    have HB4 := HB3.grown hst.2 HB3.size (fun k hk => by cases hk; exact HB2.size)
    have bx4 := (bx2.below hb3).grownR hst.2 (by simp; omega)
    refine (beside_c A1 P c1 A2 W.length c2 A3 F c3 k _ (h.below HB4 (Nat.le_refl _)).r1 (h.below HB4 (Nat.le_refl _)).r3 HM.out.1.n2 HM.out.2.1 hk).mono ?_
    rintro e w5 ⟨A5, c5, A6, c6, A7, c7, rfl, _, _, _, hb5⟩
    have HB5 := bUp HB4 hb5 HB4.size
    have ho5 := hst.1.below hb5
    have hle := side_len P F k (kids P (k : Int)).length
    have hk24 := kidTo_len P (k : Int) P.length
    change (kids P (k : Int)).length ≤ _ at hk24
    clear hco hfo f0' f1' f2' f0 f1 f2 fz bx2 bx4 hb3 hst hb5
    by_cases hl : 0 < (lessL P F k).length
    · have HG := Lib.hid (gain_1 HU.out hl)
      obtain ⟨u5, hc5⟩ := ho5.some_ (k := k) (by simp; omega)
      have hf5 := ho5.frozen k
      have hs5 := ho5.set k (-1)
      have HB6 := HB5.grown hs5.2 HB5.size (fun k hk => by cases hk; exact HB2.size)
      go_wp2
      go_ret2
      exact ⟨_, _, by rw [gainL_length, ← HM.out.2.1] <;> rfl, by rw [HG.out, ← HM.out.2.1]; exact hs5.1.mono HB2.size, HB6⟩
    · have HG := Lib.hid (gain_0 HU.out hl)
      go_wp2
      go_ret2
      exact ⟨_, _, by rw [gainL_length, ← HM.out.2.1] <;> rfl, by rw [HG.out, ← HM.out.2.1]; exact ho5.mono HB2.size, HB5⟩
end Go.Proofs.Ytnhclpajfejnoaa
