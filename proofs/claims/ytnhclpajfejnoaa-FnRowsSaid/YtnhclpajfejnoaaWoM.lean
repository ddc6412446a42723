/- The wealth at the nodes of a market: both packages' walks. -/
import Derived.Test.YtnhclpajfejnoaaMktW
import Derived.Test.YtnhclpajfejnoaaButA
namespace Go.Proofs.Ytnhclpajfejnoaa
open Go.RowKit

theorem hlB_1 {P W F H : List Int} {s : Int} (h : mktB P W F = false) : hlB P W F H s = false := by simp [hlB, h]
theorem hlB_2 {P W F H : List Int} {s : Int} (h1 : mktB P W F = true) (h : inB s (-999) 999 = false) : hlB P W F H s = false := by simp [hlB, h1, h]
theorem hlB_3 {P W F H : List Int} {s : Int} {q : Bool} (h1 : mktB P W F = true) (h2 : inB s (-999) 999 = true) (h : hldB P F H = q) : hlB P W F H s = q := by simp [hlB, h1, h2, h]
theorem hlB_yes {P W F H : List Int} {s : Int} (h : hlB P W F H s = true) : TreeOk P W ∧ F.length = P.length ∧ allB F 0 20 = true ∧ (-999 ≤ s ∧ s ≤ 999) ∧ H.length = P.length ∧ allB H (-99) 99 = true := by
  simp only [hlB, hldB, Bool.and_eq_true, decide_eq_true_eq, inB_iff] at h
  have := mktB_iff.1 h.1.1
  exact ⟨this.1, this.2.1, this.2.2, h.1.2, by omega, h.2.1.2⟩
theorem wl_step {P F H : List Int} {s : Int} {x p : Nat} (hx : 1 ≤ x) (hp : nth P x = (p : Int)) : wlL P F H s x = wlL P F H s (x - 1) ++ [nth (wlL P F H s (x - 1)) p + nth H p * (nth F x - nth F p)] := by
  obtain ⟨m, rfl⟩ : ∃ m, x = m + 1 := ⟨x - 1, by omega⟩
  rw [wlL, hp, Int.toNat_natCast, Nat.add_sub_cancel]
theorem wl_len {P F H : List Int} {s : Int} {x : Nat} (hx : 1 ≤ x) : (wlL P F H s (x - 1)).length = x := by rw [wlL_length]; omega

theorem l6Holds_c (A1 : Option Addr) (P : List Int) (c1 : Nat) (A2 : Option Addr) (W : List Int) (c2 : Nat) (A3 : Option Addr) (F : List Int) (c3 : Nat) (s : Int) (A4 : Option Addr) (H : List Int) (c4 : Nat) (w : World) (h : RdM w A1 P A2 W A3 F) (h4 : Rd w A4 (ints H)) (hl4 : H.length ≤ 16777216) :
    Calls Try.prog 94 #[mkV A1 P.length c1 A2 W.length c2 A3 F.length c3, .int .i64 s, .slice A4 H.length c4] w (Quietly w (.bool (hlB P W F H s))) := by
  have HB1 : Below w.heap.size w (w.alloc (.cells #[.slice A1 P.length c1, .slice A2 W.length c2, .slice A3 F.length c3] 28)) := (Below.refl _ _).alloc (Nat.le_refl _) _
  have bx := Bx3.new w (.slice A1 P.length c1) (.slice A2 W.length c2) (.slice A3 F.length c3) 28
  have hv := h.below HB1 (Nat.le_refl _)
  have l3 := h.l3
  cases hm : mktB P W F
  · rw [hlB_1 hm]
    go_enter Try.func94, Try.ntmps94
    go_wp2_with fail
    refine (l6Market_is _ _ _ _ _ _ _ _ _ _ hm _ hv).mono ?_
    rintro e w2 ⟨rfl, hb2⟩
    go_wp2
    go_ret
    exact ⟨rfl, bUp HB1 hb2 HB1.size⟩
  · have HM := Lib.hid (mktB_iff.1 hm)
    cases hs : inB s (-999) 999
    · rw [hlB_2 hm hs]
      go_enter Try.func94, Try.ntmps94
      go_wp2_with fail
      refine (l6Market_is _ _ _ _ _ _ _ _ _ _ hm _ hv).mono ?_
      rintro e w2 ⟨rfl, hb2⟩
      go_wp2_with fail
      refine (l1In_is _ _ _ _ hs _).mono ?_
      rintro e w' ⟨rfl, rfl⟩
      go_wp2
      go_ret
      exact ⟨rfl, bUp HB1 hb2 HB1.size⟩
    · by_cases hl : H.length = F.length
      · have e1 : ((H.length : Int) != (F.length : Int)) = false := by simp [hl]
        have HL := Lib.hid hl
        clear hl
        go_enter Try.func94, Try.ntmps94
        go_wp2_with fail
        refine (l6Market_is _ _ _ _ _ _ _ _ _ _ hm _ hv).mono ?_
        rintro e w2 ⟨rfl, hb2⟩
        have HB2 := bUp HB1 hb2 HB1.size
        obtain ⟨f0, f1, f2, f3⟩ := bx.below hb2
        have h42 := h4.below HB2 (Nat.le_refl _)
        have h22 := (h.below HB2 (Nat.le_refl _)).r2
        clear bx hv hb2
        go_wp2_with fail
        refine (l1In_is _ _ _ _ hs _).mono ?_
        rintro e w' ⟨rfl, rfl⟩
        go_wp2
        go_loop [7] (fun i => ∃ k : Nat, k ≤ H.length ∧ i = .int .i64 k ∧ allB (H.take k) (-99) 99 = true ∧ ∀ x, x < k → endB P x = true → nth H x = 0) (fun i => H.length - (intOf i).toNat)
        case atStart => exact ⟨0, by omega, rfl, rfl, fun x hx => by omega⟩
        case round =>
          obtain ⟨k, hk, rfl, hall, hz⟩ := hrel
          have HA := Lib.hid hall
          have HZ := Lib.hid hz
          clear hall hz
          by_cases hlt : k < H.length
          · obtain ⟨a, rfl, hca⟩ := h42.intN hlt
            have hkP : k < P.length := by have := HL.out; have := HM.out.2.1; omega
            have hkW : k < W.length := by have := HM.out.1.len; omega
            obtain ⟨b, rfl, hcb⟩ := h22.intN hkW
            cases hx : inB (nth H k) (-99) 99
            · have HN := Lib.hid (hlB_3 hm hs (hldB_2 (P := P) HL.out (allB_no hlt hx)))
              go_wp2_with fail
              refine (l1In_is _ _ _ _ hx _).mono ?_
              rintro e w' ⟨rfl, rfl⟩
              go_wp2
              go_ret
              exact ⟨by rw [HN.out] <;> rfl, HB2⟩
            · have HN := Lib.hid (allB_succ hlt HA.out hx)
              by_cases he : 0 < nth W k
              · have HE := Lib.hid ((HM.out.1.end_iff hkP).2 he)
                by_cases h0 : nth H k = 0
                · have e2 : (nth H k != 0) = false := by simp [h0]
                  have HZ2 : Hid (∀ x, x < k + 1 → endB P x = true → nth H x = 0) := Lib.hid fun x hx he => by
                    rcases Nat.lt_or_ge x k with h' | h'
                    · exact HZ.out x h' he
                    · rw [show x = k by omega]; exact h0
                  clear h0
                  go_wp2_with fail
                  refine (l1In_is _ _ _ _ hx _).mono ?_
                  rintro e w' ⟨rfl, rfl⟩
                  go_wp2
                  go_round
                  case rel => exact ⟨k + 1, by omega, by go_num, HN.out, HZ2.out⟩
                  case measure => simp [intOf] <;> omega
                · have e2 : (nth H k != 0) = true := by simp [h0]
                  have HF : Hid (hlB P W F H s = false) := Lib.hid (by
                    refine hlB_3 hm hs ?_
                    cases ha : allB H (-99) 99
                    · exact hldB_2 HL.out ha
                    · exact hldB_3 HL.out ha (zB_no hkP HE.out h0))
                  clear h0
                  go_wp2_with fail
                  refine (l1In_is _ _ _ _ hx _).mono ?_
                  rintro e w' ⟨rfl, rfl⟩
                  go_wp2
                  go_ret
                  exact ⟨by rw [HF.out] <;> rfl, HB2⟩
              · have HZ2 : Hid (∀ x, x < k + 1 → endB P x = true → nth H x = 0) := Lib.hid fun x hx he2 => by
                  rcases Nat.lt_or_ge x k with h' | h'
                  · exact HZ.out x h' he2
                  · obtain rfl : x = k := by omega
                    exact absurd ((HM.out.1.end_iff hkP).1 he2) he
                go_wp2_with fail
                refine (l1In_is _ _ _ _ hx _).mono ?_
                rintro e w' ⟨rfl, rfl⟩
                go_wp2
                go_round
                case rel => exact ⟨k + 1, by omega, by go_num, HN.out, HZ2.out⟩
                case measure => simp [intOf] <;> omega
          · have HF : Hid (hlB P W F H s = true) := Lib.hid (hlB_3 hm hs (hldB_3 HL.out (allB_end hlt HA.out) (zB_iff.2 fun x hx he => HZ.out x (by have := HL.out; have := HM.out.2.1; omega) he)))
            go_wp2
            go_ret
            exact ⟨by rw [HF.out] <;> rfl, HB2⟩
      · have e1 : ((H.length : Int) != (F.length : Int)) = true := by simp; omega
        rw [hlB_3 hm hs (hldB_1 hl)]
        clear hl
        go_enter Try.func94, Try.ntmps94
        go_wp2_with fail
        refine (l6Market_is _ _ _ _ _ _ _ _ _ _ hm _ hv).mono ?_
        rintro e w2 ⟨rfl, hb2⟩
        obtain ⟨f0, f1, f2, f3⟩ := bx.below hb2
        go_wp2_with fail
        refine (l1In_is _ _ _ _ hs _).mono ?_
        rintro e w' ⟨rfl, rfl⟩
        go_wp2
        go_ret
        exact ⟨rfl, bUp HB1 hb2 HB1.size⟩
theorem l6Holds_is (A1 : Option Addr) (P : List Int) (c1 : Nat) (A2 : Option Addr) (W : List Int) (c2 : Nat) (A3 : Option Addr) (F : List Int) (c3 : Nat) (s : Int) (A4 : Option Addr) (H : List Int) (c4 : Nat) (q : Bool) (hq : hlB P W F H s = q) (w : World) (h : RdM w A1 P A2 W A3 F) (h4 : Rd w A4 (ints H)) (hl4 : H.length ≤ 16777216) :
    Calls Try.prog 94 #[mkV A1 P.length c1 A2 W.length c2 A3 F.length c3, .int .i64 s, .slice A4 H.length c4] w (Quietly w (.bool q)) := by
  rw [← hq]
  exact l6Holds_c A1 P c1 A2 W c2 A3 F c3 s A4 H c4 w h h4 hl4

/-- What one step of the wealth reads, and its bounds. -/
theorem wl_facts {P W F H : List Int} {s : Int} (hok : hlB P W F H s = true) {x : Nat} (hx : 1 ≤ x) (hlt : x < P.length) : ∃ p : Nat, p < x ∧ nth P x = (p : Int) ∧
    wlL P F H s x = wlL P F H s (x - 1) ++ [nth (wlL P F H s (x - 1)) p + nth H p * (nth F x - nth F p)] ∧
    IntKind.i64.wrap (nth F x - nth F p) = nth F x - nth F p ∧ IntKind.i64.wrap (nth H p * (nth F x - nth F p)) = nth H p * (nth F x - nth F p) ∧
    IntKind.i64.wrap (nth (wlL P F H s (x - 1)) p + nth H p * (nth F x - nth F p)) = nth (wlL P F H s (x - 1)) p + nth H p * (nth F x - nth F p) := by
  have HK := hlB_yes hok
  have hup := HK.1.par.up x hx hlt
  have h24 := HK.1.n2
  have hF := HK.2.1
  obtain ⟨p, hpp⟩ : ∃ p : Nat, nth P x = (p : Int) := ⟨(nth P x).toNat, by omega⟩
  have b1 := wlL_bd (P := P) (H := H) HK.2.2.1 HK.2.2.2.2.2 HK.2.2.2.1 (x - 1) p
  have b2 := hF_bd HK.2.2.1 HK.2.2.2.2.2 p x
  have b3 := allB_nth HK.2.2.1 (k := p) (by omega)
  have b4 := allB_nth HK.2.2.1 (k := x) (by omega)
  exact ⟨p, by omega, hpp, wl_step hx hpp, IntWalk.i64_in _ (by omega), IntWalk.i64_in _ (by omega), IntWalk.i64_in _ (by omega)⟩

set_option maxRecDepth 20000 in
set_option maxHeartbeats 1000000 in
theorem l6Wealth_c (A1 : Option Addr) (P : List Int) (c1 : Nat) (A2 : Option Addr) (W : List Int) (c2 : Nat) (A3 : Option Addr) (F : List Int) (c3 : Nat) (s : Int) (A4 : Option Addr) (H : List Int) (c4 : Nat) (w : World) (h : RdM w A1 P A2 W A3 F) (h4 : Rd w A4 (ints H)) (hok : hlB P W F H s = true) :
    Calls Try.prog 95 #[mkV A1 P.length c1 A2 W.length c2 A3 F.length c3, .int .i64 s, .slice A4 H.length c4] w (Row w (wl P F H s)) := by
  have HK := Lib.hid (hlB_yes hok)
  have HO := Lib.hid hok
  have hn1 := HK.out.1.n1
  have hn2 := HK.out.1.n2
  have HB1 : Below w.heap.size w ((w.alloc (.cells #[.slice A1 P.length c1, .slice A2 W.length c2, .slice A3 F.length c3] 28)).alloc (.cells #[.int .i64 s] 3)) := ((Below.refl _ _).alloc (Nat.le_refl _) _).alloc (by simp) _
  have bx := (Bx3.new w (.slice A1 P.length c1) (.slice A2 W.length c2) (.slice A3 F.length c3) 28).alloc (.cells #[.int .i64 s] 3)
  have O0 := Own.lit (w.alloc (.cells #[.slice A1 P.length c1, .slice A2 W.length c2, .slice A3 F.length c3] 28)) [s] (by simp)
  rw [World.size_alloc] at O0
  clear hok
  go_enter Try.func95, Try.ntmps95
  go_wp2
  go_loopw [7, 8] (fun t i wr => ∃ x : Nat, ∃ A c, 1 ≤ x ∧ x ≤ P.length ∧ i = .int .i64 (x : Int) ∧ t = .slice A x c ∧ Own wr (w.heap.size + 1) A c (wlL P F H s (x - 1)) ∧ Bx3 wr w.heap.size (.slice A1 P.length c1) (.slice A2 W.length c2) (.slice A3 F.length c3) ∧ Below w.heap.size w wr) (fun _ i _ => P.length - (intOf i).toNat)
  case atStart => exact ⟨1, some ⟨w.heap.size + 1, 0, none⟩, 1, by omega, by omega, rfl, rfl, O0, bx, HB1⟩
  case round =>
    obtain ⟨wo, rfl⟩ : ∃ wo : World, wo = wr := ⟨_, rfl⟩
    obtain ⟨x, A, c, hx1, hm, rfl, rfl, ho, hx, hB⟩ := hrel
    clear HB1 O0 bx
    have hx' := hx
    obtain ⟨f0, f1, f2, f3⟩ := hx
    have HLW := Lib.hid (wl_len (P := P) (F := F) (H := H) (s := s) hx1)
    have HF := Lib.hid HK.out.2.1
    by_cases hlt : x < F.length
    · have hv := h.below hB (Nat.le_refl _)
      have h4v := h4.below hB (Nat.le_refl _)
      obtain ⟨p, hpx, hpp, hw, e1, e2, e3⟩ := wl_facts HO.out hx1 (by have := HF.out; omega)
      have HW := Lib.hid hw
      obtain ⟨a1, rfl, q1⟩ := hv.r1.intN (k := x) (by have := HF.out; omega)
      obtain ⟨a3, rfl, q3⟩ := hv.r3.intN (k := x) hlt
      obtain ⟨a3', he3, q3'⟩ := hv.r3.intN (k := p) (by omega)
      obtain rfl : a3 = a3' := by injection he3
      obtain ⟨a4, rfl, q4⟩ := h4v.intN (k := p) (by have := HK.out.2.2.2.2.1; have := HF.out; omega)
      obtain ⟨ao, rfl, qo⟩ := ho.rd.intN (k := p) (by have := HLW.out; omega)
      rw [hpp] at q1
      have i1 : (0 : Int) ≤ (p : Int) := by omega
      have i2 : (p : Int) < (x : Int) := by omega
      have i3 : (p : Int) < (H.length : Int) := by have := HK.out.2.2.2.2.1; have := HF.out; omega
      have i4 : (p : Int) < (F.length : Int) := by omega
      have i5 : (x : Int) < (F.length : Int) := by omega
      have i6 : (0 : Int) ≤ (x : Int) := by omega
      have i7 : (x : Int) < (P.length : Int) := by have := HF.out; omega
      clear hpp he3 hw
      go_wp2
      have hS0 : (fun w' : World => w'.cell? (ao.add p) = some (.int .i64 (nth (wlL P F H s (x - 1)) p)) ∧ w'.cell? (a4.add p) = some (.int .i64 (nth H p)) ∧ w'.cell? ⟨w.heap.size, 2, none⟩ = some (.slice (some a3) F.length c3) ∧ w'.cell? (a3.add x) = some (.int .i64 (nth F x)) ∧ w'.cell? (a3.add p) = some (.int .i64 (nth F p))) wo.drew := ⟨qo, q4, f2, q3, q3'⟩
      clear qo q4 f2 q3 q3'
      refine tamed_region (S := fun w' => w'.cell? (ao.add p) = some (.int .i64 (nth (wlL P F H s (x - 1)) p)) ∧ w'.cell? (a4.add p) = some (.int .i64 (nth H p)) ∧ w'.cell? ⟨w.heap.size, 2, none⟩ = some (.slice (some a3) F.length c3) ∧ w'.cell? (a3.add x) = some (.int .i64 (nth F x)) ∧ w'.cell? (a3.add p) = some (.int .i64 (nth F p))) (fun k => decide (22 ≤ k)) (by kernel_rfl) ?_
      refine tame0 (k := 0) ?_ rfl (by kernel_rfl) (by kernel_rfl) (by kernel_rfl) (fun _ _ _ h => h) (by rfl) (fun v => ?_) ?_
      rotate_left
      · (go_simp; all_goals rfl)
      simp only [Act.put, List.setIfInBounds_toArray]
      refine tame0 (k := 1) ?_ rfl (by kernel_rfl) (by kernel_rfl) (by kernel_rfl) (fun _ _ _ h => h) (by rfl) (fun v => ?_) ?_
      rotate_left
      · (go_simp; all_goals rfl)
      simp only [Act.put]
      refine tame0 (k := 2) ?_ rfl (by kernel_rfl) (by kernel_rfl) (by kernel_rfl) (fun _ _ _ h => h) (by rfl) (fun v => ?_) ?_
      rotate_left
      · (go_simp; all_goals rfl)
      simp only [Act.put]
      refine tame0 (k := 3) ?_ rfl (by kernel_rfl) (by kernel_rfl) (by kernel_rfl) (fun _ _ _ h => h) (by rfl) (fun v => ?_) ?_
      rotate_left
      · (go_simp; all_goals rfl)
      simp only [Act.put]
      refine tameT (k := 4) ?_ rfl (by kernel_rfl) (by kernel_rfl) (by kernel_rfl) (by kernel_rfl) (by kernel_rfl) (fun _ _ _ h => h) (by rfl) hS0 (fun v hv => ?_) ?_
      rotate_left
      · (obtain ⟨k1, k2, k3, k4, k5⟩ := hv; go_simp; all_goals rfl)
      simp only [Act.put]
      refine tame0 (k := 5) ?_ rfl (by kernel_rfl) (by kernel_rfl) (by kernel_rfl) (fun _ _ _ h => h) (by rfl) (fun v => ?_) ?_
      rotate_left
      · (go_simp; all_goals rfl)
      simp only [Act.put]
      refine tame0 (k := 6) ?_ rfl (by kernel_rfl) (by kernel_rfl) (by kernel_rfl) (fun _ _ _ h => h) (by rfl) (fun v => ?_) ?_
      rotate_left
      · (go_simp; all_goals rfl)
      simp only [Act.put]
      refine tame0 (k := 7) ?_ rfl (by kernel_rfl) (by kernel_rfl) (by kernel_rfl) (fun _ _ _ h => h) (by rfl) (fun v => ?_) ?_
      rotate_left
      · (go_simp; all_goals rfl)
      simp only [Act.put]
      refine tameT (k := 8) ?_ rfl (by kernel_rfl) (by kernel_rfl) (by kernel_rfl) (by kernel_rfl) (by kernel_rfl) (fun _ _ _ h => h) (by rfl) hS0 (fun v hv => ?_) ?_
      rotate_left
      · (obtain ⟨k1, k2, k3, k4, k5⟩ := hv; go_simp; all_goals rfl)
      simp only [Act.put]
      refine tame0 (k := 9) ?_ rfl (by kernel_rfl) (by kernel_rfl) (by kernel_rfl) (fun _ _ _ h => h) (by rfl) (fun v => ?_) ?_
      rotate_left
      · (go_simp; all_goals rfl)
      simp only [Act.put]
      refine tameT (k := 10) ?_ rfl (by kernel_rfl) (by kernel_rfl) (by kernel_rfl) (by kernel_rfl) (by kernel_rfl) (fun _ _ _ h => h) (by rfl) hS0 (fun v hv => ?_) ?_
      rotate_left
      · (obtain ⟨k1, k2, k3, k4, k5⟩ := hv; go_simp; all_goals rfl)
      simp only [Act.put]
      refine tame0 (k := 11) ?_ rfl (by kernel_rfl) (by kernel_rfl) (by kernel_rfl) (fun _ _ _ h => h) (by rfl) (fun v => ?_) ?_
      rotate_left
      · (go_simp; all_goals rfl)
      simp only [Act.put]
      refine tame0 (k := 12) ?_ rfl (by kernel_rfl) (by kernel_rfl) (by kernel_rfl) (fun _ _ _ h => h) (by rfl) (fun v => ?_) ?_
      rotate_left
      · (go_simp; all_goals rfl)
      simp only [Act.put]
      refine tameT (k := 13) ?_ rfl (by kernel_rfl) (by kernel_rfl) (by kernel_rfl) (by kernel_rfl) (by kernel_rfl) (fun _ _ _ h => h) (by rfl) hS0 (fun v hv => ?_) ?_
      rotate_left
      · (obtain ⟨k1, k2, k3, k4, k5⟩ := hv; go_simp; all_goals rfl)
      simp only [Act.put]
      refine tame0 (k := 14) ?_ rfl (by kernel_rfl) (by kernel_rfl) (by kernel_rfl) (fun _ _ _ h => h) (by rfl) (fun v => ?_) ?_
      rotate_left
      · (go_simp; all_goals rfl)
      simp only [Act.put]
      refine tameT (k := 15) ?_ rfl (by kernel_rfl) (by kernel_rfl) (by kernel_rfl) (by kernel_rfl) (by kernel_rfl) (fun _ _ _ h => h) (by rfl) hS0 (fun v hv => ?_) ?_
      rotate_left
      · (obtain ⟨k1, k2, k3, k4, k5⟩ := hv; go_simp; all_goals rfl)
      simp only [Act.put]
      refine tame0 (k := 16) ?_ rfl (by kernel_rfl) (by kernel_rfl) (by kernel_rfl) (fun _ _ _ h => h) (by rfl) (fun v => ?_) ?_
      rotate_left
      · (go_simp; all_goals rfl)
      simp only [Act.put]
      refine tame0 (k := 17) ?_ rfl (by kernel_rfl) (by kernel_rfl) (by kernel_rfl) (fun _ _ _ h => h) (by rfl) (fun v => ?_) ?_
      rotate_left
      · (go_simp; all_goals rfl)
      simp only [Act.put]
      refine tameT (k := 18) ?_ rfl (by kernel_rfl) (by kernel_rfl) (by kernel_rfl) (by kernel_rfl) (by kernel_rfl) (fun _ _ _ h => h) (by rfl) hS0 (fun v hv => ?_) ?_
      rotate_left
      · (obtain ⟨k1, k2, k3, k4, k5⟩ := hv; go_simp; all_goals rfl)
      simp only [Act.put]
      refine tame0 (k := 19) ?_ rfl (by kernel_rfl) (by kernel_rfl) (by kernel_rfl) (fun _ _ _ h => h) (by rfl) (fun v => ?_) ?_
      rotate_left
      · (go_simp; all_goals rfl)
      simp only [Act.put]
      refine tame0 (k := 20) ?_ rfl (by kernel_rfl) (by kernel_rfl) (by kernel_rfl) (fun _ _ _ h => h) (by rfl) (fun v => ?_) ?_
      rotate_left
      · (go_simp; all_goals rfl)
      simp only [Act.put]
      refine tame0 (k := 21) ?_ rfl (by kernel_rfl) (by kernel_rfl) (by kernel_rfl) (fun _ _ _ h => h) (by rfl) (fun v => ?_) ?_
      rotate_left
      · (go_simp; all_goals rfl)
      simp only [Act.put]
      clear hS0
      refine tame_one (k := 22) (by kernel_rfl) rfl (by rfl) ?_
      go_simp
      refine tame_one (k := 23) (by kernel_rfl) rfl (by rfl) ?_
      refine op_append_ints _ (.tmp 25) (.tmp 47) rfl (w.heap.size + 1) (some ao) x c (wlL P F H s (x - 1)) rfl (by rw [HLW.out]) (ho.drew.alloc _) (some ⟨wo.heap.size, 0, none⟩) 1 1 [nth (wlL P F H s (x - 1)) p + nth H p * (nth F x - nth F p)] rfl rfl (Rd.box wo.drew _ _) (by rw [HLW.out]; simp; omega) (by have := hx'.2.2.2; simp; omega) ?_
      rw [← HW.out]
      intro A2 c2 w3 ho2 hg2 hb2
      refine ⟨fun h => by simp at h, ?_⟩
      clear hb2
      have hg3 := grown_of_alloc_drew hg2
      have HB3 := hB.grown hg3 hB.size (fun k hk => by have := ho.ge k hk; omega)
      have hx3 := hx'.grownR hg3 (row_ne ho (by omega))
      clear hg2 hg3 e1 e2 e3
      refine tame_one (k := 24) (by kernel_rfl) rfl (by rfl) ?_
      go_simp
      refine tame_end (by kernel_rfl) ?_
      go_wp2
      go_roundw
      case rel => exact ⟨x + 1, A2, c2, by omega, by have := HF.out; omega, by go_num, rfl, by rw [Nat.add_sub_cancel]; exact ho2, hx3, HB3⟩
      case measure => simp [intOf] <;> omega
    · have hmn : x = P.length := by have := HF.out; omega
      subst hmn
      go_wp2
      go_ret
      exact ⟨A, c, by rw [wl, wlL_length]; simp; omega, ho.mono (by omega), hB⟩
end Go.Proofs.Ytnhclpajfejnoaa
