/- WealthOf: both functions. -/
import Derived.Test.YtnhclpajfejnoaaWoM
namespace Go.Proofs.Ytnhclpajfejnoaa
open Go.RowKit

def whV (P W F H : List Int) (s : Int) : List Int := if hlB P W F H s then wl P F H s else []
theorem whV_no {P W F H : List Int} {s : Int} (h : hlB P W F H s = false) : whV P W F H s = [] := by simp [whV, h]
theorem whV_yes {P W F H : List Int} {s : Int} (h : hlB P W F H s = true) : whV P W F H s = wl P F H s := by simp [whV, h]
theorem whV_length (P W F H : List Int) (s : Int) : (whV P W F H s).length ≤ 24 := by
  cases h : hlB P W F H s
  · rw [whV_no h]; simp
  · have := hlB_yes h
    have h1 := this.1.n1
    have h2 := this.1.n2
    rw [whV_yes h, wl, wlL_length]; omega
theorem specWh_c (A1 : Option Addr) (P : List Int) (c1 : Nat) (A2 : Option Addr) (W : List Int) (c2 : Nat) (A3 : Option Addr) (F : List Int) (c3 : Nat) (s : Int) (A4 : Option Addr) (H : List Int) (c4 : Nat) (w : World) (h : RdM w A1 P A2 W A3 F) (h4 : Rd w A4 (ints H)) (hl4 : H.length ≤ 16777216) :
    Calls Try.prog 35 #[mkV A1 P.length c1 A2 W.length c2 A3 F.length c3, .int .i64 s, .slice A4 H.length c4] w (Gives w (whV P W F H s) (hlB P W F H s)) := by
  have HB1 : Below w.heap.size w (w.alloc (.cells #[.slice A1 P.length c1, .slice A2 W.length c2, .slice A3 F.length c3] 28)) := (Below.refl _ _).alloc (Nat.le_refl _) _
  have bx := Bx3.new w (.slice A1 P.length c1) (.slice A2 W.length c2) (.slice A3 F.length c3) 28
  have hv := h.below HB1 (Nat.le_refl _)
  have h4v := h4.below HB1 (Nat.le_refl _)
  cases hq : hlB P W F H s
  · rw [whV_no hq]
    go_enter Try.func35, Try.ntmps35
    go_wp2_with fail
    refine (l6Holds_is _ _ _ _ _ _ _ _ _ _ _ _ _ _ hq _ hv h4v hl4).mono ?_
    rintro e w2 ⟨rfl, hb2⟩
    have HB2 := bUp HB1 hb2 HB1.size
    have O2 := Own.lit0 w2 _ rfl
    have HB3 : Below w.heap.size w (w2.alloc (.cells #[] 3)) := HB2.alloc HB2.size _
    go_wp2
    go_ret2
    exact ⟨_, _, rfl, O2.mono HB2.size, HB3⟩
  · rw [whV_yes hq]
    go_enter Try.func35, Try.ntmps35
    go_wp2_with fail
    refine (l6Holds_is _ _ _ _ _ _ _ _ _ _ _ _ _ _ hq _ hv h4v hl4).mono ?_
    rintro e w2 ⟨rfl, hb2⟩
    have HB2 := bUp HB1 hb2 HB1.size
    obtain ⟨f0, f1, f2, f3⟩ := bx.below hb2
    go_wp2_with fail
    refine (l6Wealth_c _ _ _ _ _ _ _ _ _ _ _ _ _ _ (h.below HB2 (Nat.le_refl _)) (h4.below HB2 (Nat.le_refl _)) hq).mono ?_
    rintro e w3 ⟨A, c, rfl, ho, hb3⟩
    have HB3 := bUp HB2 hb3 HB2.size
    go_wp2
    go_ret2
    exact ⟨_, _, rfl, ho.mono HB2.size, HB3⟩
set_option maxRecDepth 20000 in
set_option maxHeartbeats 1000000 in
theorem implWh_yes (A1 : Option Addr) (P : List Int) (c1 : Nat) (A2 : Option Addr) (W : List Int) (c2 : Nat) (A3 : Option Addr) (F : List Int) (c3 : Nat) (s : Int) (A4 : Option Addr) (H : List Int) (c4 : Nat) (w : World) (h : RdM w A1 P A2 W A3 F) (h4 : Rd w A4 (ints H)) (hl4 : H.length ≤ 16777216) (hq : hlB P W F H s = true) :
    Calls Try.prog 34 #[mkV A1 P.length c1 A2 W.length c2 A3 F.length c3, .int .i64 s, .slice A4 H.length c4] w (Gives w (wl P F H s) true) := by
  have HB1 : Below w.heap.size w (w.alloc (.cells #[.slice A1 P.length c1, .slice A2 W.length c2, .slice A3 F.length c3] 28)) := (Below.refl _ _).alloc (Nat.le_refl _) _
  have bx := Bx3.new w (.slice A1 P.length c1) (.slice A2 W.length c2) (.slice A3 F.length c3) 28
  have hv := h.below HB1 (Nat.le_refl _)
  have h4v := h4.below HB1 (Nat.le_refl _)
  have HK := Lib.hid (hlB_yes hq)
  have HQ := Lib.hid hq
  have hn1 := HK.out.1.n1
  have hn2 := HK.out.1.n2
  have hm : mktB P W F = true := mktB_iff.2 ⟨HK.out.1, HK.out.2.1, HK.out.2.2.1⟩
  have hs : inB s (-999) 999 = true := inB_iff.2 HK.out.2.2.2.1
  have hld : hldB P F H = true := by
    simp only [hlB, Bool.and_eq_true] at hq
    exact hq.2
  clear hq
  go_enter Try.func34, Try.ntmps34
  go_wp2_with fail
  refine (isMarket_is _ _ _ _ _ _ _ _ _ _ hm _ hv).mono ?_
  rintro e w2 ⟨rfl, hb2⟩
  have HB2 := bUp HB1 hb2 HB1.size
  have bx2 := bx.below hb2
  obtain ⟨f0, f1, f2, f3⟩ := bx2
  go_wp2_with fail
  refine (within_is _ _ _ _ hs _).mono ?_
  rintro e w' ⟨rfl, rfl⟩
  go_wp2_with fail
  refine (areHoldings_is _ _ _ _ _ _ _ _ _ _ _ _ _ hld _ (h.below HB2 (Nat.le_refl _)) (h4.below HB2 (Nat.le_refl _)) hl4 hm).mono ?_
  rintro e w3 ⟨rfl, hb3⟩
  have HB3 := bUp HB2 hb3 HB2.size
  have bx3 := (show Bx3 w2 _ _ _ _ from ⟨f0, f1, f2, f3⟩).below hb3
  have HZ3 := Lib.hid bx3.2.2.2
  have HHl := Lib.hid HK.out.2.2.2.2.1
  have hH0 : 0 < H.length := by have := HHl.out; omega
  clear f0 f1 f2 f3 hb2 hb3 bx hv h4v
  go_wp2_with (at_make; refine wp_make_intsH _ w3.heap.size rfl rfl _ _ rfl _ _ _ _ H.length rfl rfl rfl rfl (by omega) ?_; intro w4 ho4 hb4; obtain ⟨u0, hco⟩ := ho4.some_ (k := 0) (by simp; omega); have hfo := ho4.frozen 0)
  have HB4 := bUp HB3 hb4 HB3.size
  have bx4 := bx3.below hb4
  have hst := ho4.set 0 s
  have hg3 := HB3.size
  have h0e : (List.replicate H.length (0 : Int)).set 0 s = wlL P F H s (1 - 1) ++ List.replicate (H.length - 1) 0 := by
    have := set_fill [] H.length s 0 rfl hH0
    simpa [wlL] using this
  rw [h0e] at hst
  have HB5 := HB4.grown hst.2 HB4.size (fun k hk => by cases hk; exact HB3.size)
  have bx5 := bx4.grownR hst.2 (by simp; have := bx3.2.2.2; omega)
  have ho5 := hst.1
  clear h0e hst bx4
  go_loopw [9] (fun i wr => ∃ x : Nat, 1 ≤ x ∧ x ≤ P.length ∧ i = .int .i64 (x : Int) ∧ Own wr w3.heap.size (some ⟨w3.heap.size, 0, none⟩) H.length (wlL P F H s (x - 1) ++ List.replicate (H.length - x) 0) ∧ Bx3 wr w.heap.size (.slice A1 P.length c1) (.slice A2 W.length c2) (.slice A3 F.length c3) ∧ Below w.heap.size w wr) (fun i _ => P.length - (intOf i).toNat)
  case atStart => exact ⟨1, by omega, by omega, rfl, ho5, bx5, HB5⟩
  case round =>
    obtain ⟨wo, rfl⟩ : ∃ wo : World, wo = wr := ⟨_, rfl⟩
    obtain ⟨x, hx1, hm, rfl, ho, hx, hB⟩ := hrel
    clear HB5 bx5 ho5
    have hx' := hx
    obtain ⟨f0, f1, f2, f3⟩ := hx
    have HLW := Lib.hid (wl_len (P := P) (F := F) (H := H) (s := s) hx1)
    have HF := Lib.hid HK.out.2.1
    by_cases hlt : x < H.length
    · have hv := h.below hB (Nat.le_refl _)
      have h4v := h4.below hB (Nat.le_refl _)
      obtain ⟨p, hpx, hpp, hw, e1, e2, e3⟩ := wl_facts HQ.out hx1 (by have := HHl.out; omega)
      have HW := Lib.hid hw
      obtain ⟨a1, rfl, q1⟩ := hv.r1.intN (k := x) (by have := HHl.out; omega)
      obtain ⟨a3, rfl, q3⟩ := hv.r3.intN (k := x) (by have := HHl.out; have := HF.out; omega)
      obtain ⟨a3', he3, q3'⟩ := hv.r3.intN (k := p) (by have := HHl.out; have := HF.out; omega)
      obtain rfl : a3 = a3' := by injection he3
      obtain ⟨a4, rfl, q4⟩ := h4v.intN (k := p) (by omega)
      have qo := ho.cellN (k := p) (by rw [List.length_append, HLW.out]; omega)
      rw [nth_app_l (by rw [HLW.out]; exact hpx)] at qo
      obtain ⟨ux, qx⟩ := ho.some_ (k := x) (by rw [List.length_append, HLW.out]; simp; omega)
      have hfx := ho.frozen x
      have hst := ho.set x (nth (wlL P F H s (x - 1)) p + nth H p * (nth F x - nth F p))
      rw [set_fill _ _ _ _ HLW.out.symm (by omega), ← HW.out] at hst
      rw [hpp] at q1
      have i1 : (0 : Int) ≤ (p : Int) := by omega
      have i2 : (p : Int) < (x : Int) := by omega
      have i3 : (p : Int) < (H.length : Int) := by omega
      have i4 : (p : Int) < (F.length : Int) := by have := HHl.out; have := HF.out; omega
      have i5 : (x : Int) < (F.length : Int) := by have := HHl.out; have := HF.out; omega
      have i6 : (0 : Int) ≤ (x : Int) := by omega
      have i7 : (x : Int) < (P.length : Int) := by have := HHl.out; omega
      have i8 : (x : Int) < (H.length : Int) := by omega
      clear hpp he3 hw
      go_wp2
      refine wp_region_still_tail 24 (by kernel_rfl) (by kernel_rfl) ?_
      simp only [List.take_succ_cons, List.take_zero, List.drop_succ_cons, List.drop_zero]
      repeat still_step
      refine wpStill_nil ?_
      change wpList _ _ _ _ _ wo.drew
      have HB6 := (hB.grown hst.2 hB.size (fun k hk => by cases hk; exact HB3.size)).drew
      have bx6 := hx'.grownR hst.2 (by simp; have := HZ3.out; omega)
      go_wp2
      go_roundw
      case rel => exact ⟨x + 1, by omega, by have := HHl.out; omega, by go_num, by rw [Nat.add_sub_cancel, Nat.sub_add_eq]; exact hst.1, bx6, HB6⟩
      case measure => simp [intOf] <;> omega
    · have hmn : x = P.length := by have := HHl.out; omega
      subst hmn
      rw [HHl.out, Nat.sub_self, List.replicate_zero, List.append_nil] at ho
      have hll := Lib.hid (wl_len (P := P) (F := F) (H := H) (s := s) hx1)
      go_wp2
      go_ret2
      exact ⟨_, _, by rw [wl, hll.out, ← HHl.out] <;> rfl, ho.mono HB3.size, hB⟩
theorem implWh_no (A1 : Option Addr) (P : List Int) (c1 : Nat) (A2 : Option Addr) (W : List Int) (c2 : Nat) (A3 : Option Addr) (F : List Int) (c3 : Nat) (s : Int) (A4 : Option Addr) (H : List Int) (c4 : Nat) (w : World) (h : RdM w A1 P A2 W A3 F) (h4 : Rd w A4 (ints H)) (hl4 : H.length ≤ 16777216) (hq : hlB P W F H s = false) :
    Calls Try.prog 34 #[mkV A1 P.length c1 A2 W.length c2 A3 F.length c3, .int .i64 s, .slice A4 H.length c4] w (Gives w [] false) := by
  have HB1 : Below w.heap.size w (w.alloc (.cells #[.slice A1 P.length c1, .slice A2 W.length c2, .slice A3 F.length c3] 28)) := (Below.refl _ _).alloc (Nat.le_refl _) _
  have bx := Bx3.new w (.slice A1 P.length c1) (.slice A2 W.length c2) (.slice A3 F.length c3) 28
  have hv := h.below HB1 (Nat.le_refl _)
  cases hm : mktB P W F
  · clear hq
    go_enter Try.func34, Try.ntmps34
    go_wp2_with fail
    refine (isMarket_is _ _ _ _ _ _ _ _ _ _ hm _ hv).mono ?_
    rintro e w2 ⟨rfl, hb2⟩
    go_wp2
    go_ret2
    exact ⟨_, _, rfl, Own.nil _ _, bUp HB1 hb2 HB1.size⟩
  · cases hs : inB s (-999) 999
    · clear hq
      go_enter Try.func34, Try.ntmps34
      go_wp2_with fail
      refine (isMarket_is _ _ _ _ _ _ _ _ _ _ hm _ hv).mono ?_
      rintro e w2 ⟨rfl, hb2⟩
      go_wp2_with fail
      refine (within_is _ _ _ _ hs _).mono ?_
      rintro e w' ⟨rfl, rfl⟩
      go_wp2
      go_ret2
      exact ⟨_, _, rfl, Own.nil _ _, bUp HB1 hb2 HB1.size⟩
    · have hld : hldB P F H = false := by
        simp only [hlB, hm, hs, Bool.true_and] at hq
        exact hq
      clear hq
      go_enter Try.func34, Try.ntmps34
      go_wp2_with fail
      refine (isMarket_is _ _ _ _ _ _ _ _ _ _ hm _ hv).mono ?_
      rintro e w2 ⟨rfl, hb2⟩
      have HB2 := bUp HB1 hb2 HB1.size
      obtain ⟨f0, f1, f2, f3⟩ := bx.below hb2
      go_wp2_with fail
      refine (within_is _ _ _ _ hs _).mono ?_
      rintro e w' ⟨rfl, rfl⟩
      go_wp2_with fail
      refine (areHoldings_is _ _ _ _ _ _ _ _ _ _ _ _ _ hld _ (h.below HB2 (Nat.le_refl _)) (h4.below HB2 (Nat.le_refl _)) hl4 hm).mono ?_
      rintro e w3 ⟨rfl, hb3⟩
      go_wp2
      go_ret2
      exact ⟨_, _, rfl, Own.nil _ _, bUp HB2 hb3 HB2.size⟩
theorem implWh_c (A1 : Option Addr) (P : List Int) (c1 : Nat) (A2 : Option Addr) (W : List Int) (c2 : Nat) (A3 : Option Addr) (F : List Int) (c3 : Nat) (s : Int) (A4 : Option Addr) (H : List Int) (c4 : Nat) (w : World) (h : RdM w A1 P A2 W A3 F) (h4 : Rd w A4 (ints H)) (hl4 : H.length ≤ 16777216) :
    Calls Try.prog 34 #[mkV A1 P.length c1 A2 W.length c2 A3 F.length c3, .int .i64 s, .slice A4 H.length c4] w (Gives w (whV P W F H s) (hlB P W F H s)) := by
  cases hq : hlB P W F H s with
  | false => rw [whV_no hq]; exact implWh_no A1 P c1 A2 W c2 A3 F c3 s A4 H c4 w h h4 hl4 hq
  | true => rw [whV_yes hq]; exact implWh_yes A1 P c1 A2 W c2 A3 F c3 s A4 H c4 w h h4 hl4 hq
end Go.Proofs.Ytnhclpajfejnoaa
