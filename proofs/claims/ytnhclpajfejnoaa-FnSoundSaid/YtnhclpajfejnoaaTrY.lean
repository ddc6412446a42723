/- Trees: whether they are valid: both packages' walks. -/
import Derived.Test.YtnhclpajfejnoaaTrX
namespace Go.Proofs.Ytnhclpajfejnoaa
open Go.RowKit

set_option maxHeartbeats 1000000 in
theorem isTree_c (A1 : Option Addr) (P : List Int) (c1 : Nat) (A2 : Option Addr) (W : List Int) (c2 : Nat) (w : World) (h1 : Rd w A1 (ints P)) (h2 : Rd w A2 (ints W)) (hl1 : P.length ≤ 16777216) (_hl2 : W.length ≤ 16777216) :
    Calls Try.prog 69 #[trV A1 P.length c1 A2 W.length c2] w (Quietly w (.bool (treeB P W))) := by
  have HB1 : Below w.heap.size w (w.alloc (.cells #[.slice A1 P.length c1, .slice A2 W.length c2] 26)) := (Below.refl _ _).alloc (Nat.le_refl _) _
  cases hn : inB P.length 1 24
  · rw [treeB_n hn]
    go_enter Try.func69, Try.ntmps69
    go_wp2_with fail
    refine (within_is _ _ _ _ hn _).mono ?_
    rintro e w' ⟨rfl, rfl⟩
    go_wp2
    go_ret
    exact ⟨rfl, HB1⟩
  · have hnb := inB_iff.1 hn
    by_cases hw : W.length = P.length
    · have e1 : ((W.length : Int) != (P.length : Int)) = false := by simp [hw]
      have HW := Lib.hid hw
      obtain ⟨a0, hA1, hc0⟩ := (h1.below HB1 (Nat.le_refl _)).intN (k := 0) (by omega)
      rw [add_nil] at hc0
      by_cases hz : nth P 0 = -1
      · have e2 : (nth P 0 != (-1 : Int)) = false := by simp [hz]
        have HZ := Lib.hid hz
        rw [hz] at hc0
        clear hz hw
        subst hA1
        have bx := Bx.new w (.slice (some a0) P.length c1) (.slice A2 W.length c2) 26
        go_enter Try.func69, Try.ntmps69
        go_wp2_with fail
        refine (within_is _ _ _ _ hn _).mono ?_
        rintro e w' ⟨rfl, rfl⟩
        go_upto_region 4 with fail
        generalize w.alloc (.cells #[.slice (some a0) P.length c1, .slice A2 W.length c2] 26) = v at *
        obtain ⟨f0, f1, f2, f3, f4⟩ := bx
        have h1v := h1.below HB1 (Nat.le_refl _)
        have h2v := h2.below HB1 (Nat.le_refl _)
        go_wp2
        go_loop [4] (fun i => ∃ k : Nat, 1 ≤ k ∧ k ≤ P.length ∧ i = .int .i64 k ∧ ParTo P k) (fun i => P.length - (intOf i).toNat)
        case atStart => exact ⟨1, by omega, by omega, rfl, fun _ => HZ.out, fun x hx hx1 => by omega⟩
        case round =>
          obtain ⟨k, hk1, hk, rfl, hpt⟩ := hrel
          have HP := Lib.hid hpt
          clear hpt
          by_cases hlt : k < P.length
          · obtain ⟨a, he, hca⟩ := h1v.intN hlt
            obtain rfl : a0 = a := by injection he
            clear he
            cases hx : inB (nth P k) 0 ((k : Int) - 1)
            · have HN := Lib.hid (par_no (W := W) hk1 hlt hx)
              go_wp2_with fail
              refine (within_is _ _ _ _ hx _).mono ?_
              rintro e w' ⟨rfl, rfl⟩
              go_wp2
              go_ret
              exact ⟨by rw [HN.out] <;> rfl, HB1⟩
            · have HN := Lib.hid (HP.out.next hk1 hx)
              go_wp2_with fail
              refine (within_is _ _ _ _ hx _).mono ?_
              rintro e w' ⟨rfl, rfl⟩
              go_wp2
              go_round
              case rel => exact ⟨k + 1, by omega, by omega, by go_num, HN.out⟩
              case measure => simp [intOf] <;> omega
          · have hpo := HP.out.end_ (by omega) hlt
            have HPO := Lib.hid hpo
            have hkn : k = P.length := by omega
            subst hkn
            have bx2 : Bx v w.heap.size (.slice (some a0) P.length c1) (.slice A2 W.length c2) := ⟨f0, f1, f2, f3, f4⟩
            go_wp2_with fail
            refine (isEnd_c (some a0) P c1 A2 W.length c2 _ h1v hpo (by omega) (by omega)).mono ?_
            rintro e w2 ⟨g, cg, rfl, og, hb2⟩
            have HB2 := bUp HB1 hb2 HB1.size
            have h2w := h2.below HB2 (Nat.le_refl _)
            obtain ⟨g0, g1, g2, g3, g4⟩ := bx2.below hb2
            clear hpo h1v h2v bx2 hb2 f0 f1 f2 f3 f4
            go_wp2
            go_loop [44] (fun i => ∃ k : Nat, k ≤ P.length ∧ i = .int .i64 k ∧ WtTo P W k) (fun i => P.length - (intOf i).toNat)
            case atStart => exact ⟨0, by omega, rfl, fun x hx => by omega⟩
            case round =>
              obtain ⟨k, hk, rfl, hwt⟩ := hrel
              have HT := Lib.hid hwt
              clear hwt
              by_cases hlt : k < P.length
              · have hco := og.cell (k := k) (by rw [endsB_length]; exact hlt)
                rw [endsB_nth hlt] at hco
                obtain ⟨b, rfl, hcb⟩ := h2w.intN (k := k) (by have := HW.out; omega)
                have hkw : (k : Int) < (W.length : Int) := by have := HW.out; omega
                cases he : endB P k
                · rw [he] at hco
                  by_cases hx : nth W k = 0
                  · have HN := Lib.hid (HT.out.next2 he hx)
                    have e3 : (nth W k != 0) = false := by simp [hx]
                    clear he hx
                    go_wp2
                    go_round
                    case rel => exact ⟨k + 1, by omega, by go_num, HN.out⟩
                    case measure => simp [intOf] <;> omega
                  · have HN := Lib.hid (wt_no2 hlt he hx)
                    have e3 : (nth W k != 0) = true := by simp [hx]
                    clear he hx
                    go_wp2
                    go_ret
                    exact ⟨by rw [HN.out] <;> rfl, HB2⟩
                · rw [he] at hco
                  cases hx : inB (nth W k) 1 20
                  · have HN := Lib.hid (wt_no1 hlt he hx)
                    clear he
                    go_wp2_with fail
                    refine (within_is _ _ _ _ hx _).mono ?_
                    rintro e w' ⟨rfl, rfl⟩
                    go_wp2
                    go_ret
                    exact ⟨by rw [HN.out] <;> rfl, HB2⟩
                  · have HN := Lib.hid (HT.out.next1 he hx)
                    clear he
                    go_wp2_with fail
                    refine (within_is _ _ _ _ hx _).mono ?_
                    rintro e w' ⟨rfl, rfl⟩
                    go_wp2
                    go_round
                    case rel => exact ⟨k + 1, by omega, by go_num, HN.out⟩
                    case measure => simp [intOf] <;> omega
              · have hkn : k = P.length := by omega
                subst hkn
                have HN := Lib.hid (tree_yes hn HW.out HPO.out HT.out)
                go_wp2
                go_ret
                exact ⟨by rw [HN.out] <;> rfl, HB2⟩
      · have e2 : (nth P 0 != (-1 : Int)) = true := by simp [hz]
        rw [par_no0 hz]
        clear hz hw
        subst hA1
        go_enter Try.func69, Try.ntmps69
        go_wp2_with fail
        refine (within_is _ _ _ _ hn _).mono ?_
        rintro e w' ⟨rfl, rfl⟩
        go_wp2
        go_ret
        exact ⟨rfl, HB1⟩
    · have e1 : ((W.length : Int) != (P.length : Int)) = true := by simp; omega
      rw [treeB_l hw]
      clear hw
      go_enter Try.func69, Try.ntmps69
      go_wp2_with fail
      refine (within_is _ _ _ _ hn _).mono ?_
      rintro e w' ⟨rfl, rfl⟩
      go_wp2
      go_ret
      exact ⟨rfl, HB1⟩

set_option maxHeartbeats 1000000 in
theorem l2Good_c (A1 : Option Addr) (P : List Int) (c1 : Nat) (A2 : Option Addr) (W : List Int) (c2 : Nat) (w : World) (h1 : Rd w A1 (ints P)) (h2 : Rd w A2 (ints W)) (hl1 : P.length ≤ 16777216) (_hl2 : W.length ≤ 16777216) :
    Calls Try.prog 84 #[trV A1 P.length c1 A2 W.length c2] w (Quietly w (.bool (treeB P W))) := by
  have HB1 : Below w.heap.size w (w.alloc (.cells #[.slice A1 P.length c1, .slice A2 W.length c2] 26)) := (Below.refl _ _).alloc (Nat.le_refl _) _
  cases hn : inB P.length 1 24
  · rw [treeB_n hn]
    go_enter Try.func84, Try.ntmps84
    go_wp2_with fail
    refine (l1In_is _ _ _ _ hn _).mono ?_
    rintro e w' ⟨rfl, rfl⟩
    go_wp2
    go_ret
    exact ⟨rfl, HB1⟩
  · have hnb := inB_iff.1 hn
    by_cases hw : W.length = P.length
    · have e1 : ((W.length : Int) != (P.length : Int)) = false := by simp [hw]
      have HW := Lib.hid hw
      have bx := Bx.new w (.slice A1 P.length c1) (.slice A2 W.length c2) 26
      clear hw
      go_enter Try.func84, Try.ntmps84
      go_wp2_with fail
      refine (l1In_is _ _ _ _ hn _).mono ?_
      rintro e w' ⟨rfl, rfl⟩
      go_upto_region 4 with fail
      generalize w.alloc (.cells #[.slice A1 P.length c1, .slice A2 W.length c2] 26) = v at *
      obtain ⟨f0, f1, f2, f3, f4⟩ := bx
      have h1v := h1.below HB1 (Nat.le_refl _)
      have h2v := h2.below HB1 (Nat.le_refl _)
      go_wp2
      go_loop [4] (fun i => ∃ k : Nat, k ≤ P.length ∧ i = .int .i64 k ∧ ParTo P k) (fun i => P.length - (intOf i).toNat)
      case atStart => exact ⟨0, by omega, rfl, fun h => by omega, fun x hx hx1 => by omega⟩
      case round =>
        obtain ⟨k, hk, rfl, hpt⟩ := hrel
        have HP := Lib.hid hpt
        clear hpt
        by_cases hlt : k < P.length
        · obtain ⟨a, rfl, hca⟩ := h1v.intN hlt
          rcases Nat.eq_zero_or_pos k with hk0 | hk0
          · subst hk0
            rw [add_nil] at hca
            by_cases hz : nth P 0 = -1
            · have HN : Hid (ParTo P 1) := Lib.hid ⟨fun _ => hz, fun x hx hx1 => by omega⟩
              have e2 : (nth P 0 != (-1 : Int)) = false := by simp [hz]
              clear hz
              go_wp2
              go_round
              case rel => exact ⟨1, by omega, by go_num, HN.out⟩
              case measure => simp [intOf] <;> omega
            · have HN := Lib.hid (par_no0 (W := W) hz)
              have e2 : (nth P 0 != (-1 : Int)) = true := by simp [hz]
              clear hz
              go_wp2
              go_ret
              exact ⟨by rw [HN.out] <;> rfl, HB1⟩
          · have e2 : ((k : Int) == 0) = false := by simp; omega
            cases hx : inB (nth P k) 0 ((k : Int) - 1)
            · have HN := Lib.hid (par_no (W := W) hk0 hlt hx)
              go_wp2_with fail
              refine (l1In_is _ _ _ _ hx _).mono ?_
              rintro e w' ⟨rfl, rfl⟩
              go_wp2
              go_ret
              exact ⟨by rw [HN.out] <;> rfl, HB1⟩
            · have HN := Lib.hid (HP.out.next hk0 hx)
              go_wp2_with fail
              refine (l1In_is _ _ _ _ hx _).mono ?_
              rintro e w' ⟨rfl, rfl⟩
              go_wp2
              go_round
              case rel => exact ⟨k + 1, by omega, by go_num, HN.out⟩
              case measure => simp [intOf] <;> omega
        · have HPO := Lib.hid (HP.out.end_ (by omega) hlt)
          have hkn : k = P.length := by omega
          subst hkn
          have bx2 : Bx v w.heap.size (.slice A1 P.length c1) (.slice A2 W.length c2) := ⟨f0, f1, f2, f3, f4⟩
          clear f0 f1 f2 f3 f4 h1v h2v
          go_wp2
          go_loopw [5] (fun i wr => ∃ k : Nat, k ≤ P.length ∧ i = .int .i64 k ∧ WtTo P W k ∧ Bx wr w.heap.size (.slice A1 P.length c1) (.slice A2 W.length c2) ∧ Below w.heap.size w wr) (fun i _ => P.length - (intOf i).toNat)
          case atStart => exact ⟨0, by omega, rfl, fun x hx => by omega, bx2, HB1⟩
          case round =>
            obtain ⟨k, hk, rfl, hwt, hxx, hB⟩ := hrel
            clear bx2
            have HT := Lib.hid hwt
            clear hwt
            have hx' := hxx
            obtain ⟨f0, f1, f2, f3, f4⟩ := hxx
            by_cases hlt : k < P.length
            · go_wp2_with fail
              refine (l2Kids_c A1 P c1 A2 W.length c2 k _ (h1.below hB (Nat.le_refl _)) HPO.out hlt (by omega)).mono ?_
              rintro e w2 ⟨Ak, ck, rfl, ok, hb2⟩
              have HB2 := bUp hB hb2 hB.size
              have hx2 := hx'.below hb2
              have h2w := h2.below HB2 (Nat.le_refl _)
              clear ok hb2 f0 f1 f2 f3 f4
              have hx2' := hx2
              obtain ⟨f0, f1, f2, f3, f4⟩ := hx2
              obtain ⟨b, rfl, hcb⟩ := h2w.intN (k := k) (by have := HW.out; omega)
              have hkw : (k : Int) < (W.length : Int) := by have := HW.out; omega
              cases he : endB P k
              · have e4 := kids_len0 he
                by_cases hx : nth W k = 0
                · have HN := Lib.hid (HT.out.next2 he hx)
                  have e3 : (nth W k != 0) = false := by simp [hx]
                  clear he hx
                  go_wp2
                  go_roundw
                  case rel => exact ⟨k + 1, by omega, by go_num, HN.out, hx2', HB2⟩
                  case measure => simp [intOf] <;> omega
                · have HN := Lib.hid (wt_no2 hlt he hx)
                  have e3 : (nth W k != 0) = true := by simp [hx]
                  clear he hx
                  go_wp2
                  go_ret
                  exact ⟨by rw [HN.out] <;> rfl, HB2⟩
              · have e4 := kids_len0 he
                cases hx : inB (nth W k) 1 20
                · have HN := Lib.hid (wt_no1 hlt he hx)
                  clear he
                  go_wp2_with fail
                  refine (l1In_is _ _ _ _ hx _).mono ?_
                  rintro e w' ⟨rfl, rfl⟩
                  go_wp2
                  go_ret
                  exact ⟨by rw [HN.out] <;> rfl, HB2⟩
                · have HN := Lib.hid (HT.out.next1 he hx)
                  clear he
                  go_wp2_with fail
                  refine (l1In_is _ _ _ _ hx _).mono ?_
                  rintro e w' ⟨rfl, rfl⟩
                  go_wp2
                  go_roundw
                  case rel => exact ⟨k + 1, by omega, by go_num, HN.out, hx2', HB2⟩
                  case measure => simp [intOf] <;> omega
            · have hkn : k = P.length := by omega
              subst hkn
              have HN := Lib.hid (tree_yes hn HW.out HPO.out HT.out)
              go_wp2
              go_ret
              exact ⟨by rw [HN.out] <;> rfl, hB⟩
    · have e1 : ((W.length : Int) != (P.length : Int)) = true := by simp; omega
      rw [treeB_l hw]
      clear hw
      go_enter Try.func84, Try.ntmps84
      go_wp2_with fail
      refine (l1In_is _ _ _ _ hn _).mono ?_
      rintro e w' ⟨rfl, rfl⟩
      go_wp2
      go_ret
      exact ⟨rfl, HB1⟩
theorem isTree_is (A1 : Option Addr) (P : List Int) (c1 : Nat) (A2 : Option Addr) (W : List Int) (c2 : Nat) (q : Bool) (h : treeB P W = q) (w : World) (h1 : Rd w A1 (ints P)) (h2 : Rd w A2 (ints W)) (hl1 : P.length ≤ 16777216) (hl2 : W.length ≤ 16777216) :
    Calls Try.prog 69 #[trV A1 P.length c1 A2 W.length c2] w (Quietly w (.bool q)) := by
  rw [← h]
  exact isTree_c A1 P c1 A2 W c2 w h1 h2 hl1 hl2
theorem l2Good_is (A1 : Option Addr) (P : List Int) (c1 : Nat) (A2 : Option Addr) (W : List Int) (c2 : Nat) (q : Bool) (h : treeB P W = q) (w : World) (h1 : Rd w A1 (ints P)) (h2 : Rd w A2 (ints W)) (hl1 : P.length ≤ 16777216) (hl2 : W.length ≤ 16777216) :
    Calls Try.prog 84 #[trV A1 P.length c1 A2 W.length c2] w (Quietly w (.bool q)) := by
  rw [← h]
  exact l2Good_c A1 P c1 A2 W c2 w h1 h2 hl1 hl2
end Go.Proofs.Ytnhclpajfejnoaa
