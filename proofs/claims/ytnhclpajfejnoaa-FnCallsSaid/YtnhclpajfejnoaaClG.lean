/- Claims and what is left of the wealth behind them: the reference's walk. (Written by gen_clg.py.) -/
import Derived.Test.YtnhclpajfejnoaaWoI
namespace Go.Proofs.Ytnhclpajfejnoaa
open Go.RowKit

def gapTo (P F H C : List Int) (s : Int) (k : Nat) : List Int := (List.range k).map fun i => wlE P F H s i - nth C i
theorem gapTo_succ (P F H C : List Int) (s : Int) (k : Nat) : gapTo P F H C s (k + 1) = gapTo P F H C s k ++ [wlE P F H s k - nth C k] := by simp [gapTo, List.range_succ]
theorem gapTo_length (P F H C : List Int) (s : Int) (k : Nat) : (gapTo P F H C s k).length = k := by simp [gapTo]
theorem gapTo_nth {P F H C : List Int} {s : Int} {k i : Nat} (h : i < k) : nth (gapTo P F H C s k) i = wlE P F H s i - nth C i := by simp [nth, gapTo, h]
theorem ne_none {A : Option Addr} {g : Nat} (h : A = none ∨ blk A ≠ blk (some ⟨g, 0, none⟩)) : blk A ≠ some g := by
  rcases h with rfl | h
  · simp [blk]
  · exact h
theorem wlE_bd {P W F H : List Int} {s : Int} (h : hlB P W F H s = true) (i : Nat) : -50000 ≤ wlE P F H s i ∧ wlE P F H s i ≤ 50000 := by
  have HK := hlB_yes h
  have := wlL_bd (P := P) HK.2.2.1 HK.2.2.2.2.2 HK.2.2.2.1 (P.length - 1) (nth (endL P) i).toNat
  have := HK.1.n2
  unfold wlE wl
  omega

set_option maxRecDepth 20000 in
set_option maxHeartbeats 2000000 in
theorem l6Gaps_c (A1 : Option Addr) (P : List Int) (c1 : Nat) (A2 : Option Addr) (W : List Int) (c2 : Nat) (A3 : Option Addr) (F : List Int) (c3 : Nat) (s : Int) (A4 : Option Addr) (H : List Int) (c4 : Nat) (A7 : Option Addr) (C : List Int) (c7 : Nat) (w : World) (h : RdM w A1 P A2 W A3 F) (h4 : Rd w A4 (ints H)) (h7 : Rd w A7 (ints C))
    (hok : hlB P W F H s = true) (hC : clmB P C = true) :
    Calls Try.prog 116 #[mkV A1 P.length c1 A2 W.length c2 A3 F.length c3, .int .i64 s, .slice A4 H.length c4, .slice A7 C.length c7] w (Row w (gapTo P F H C s (endL P).length)) := by
  have HK := Lib.hid (hlB_yes hok)
  have HO := Lib.hid hok
  have hCl : C.length = (endL P).length ∧ allB C (-99) 99 = true := by simpa [clmB] using hC
  have HCL := Lib.hid hCl
  have hle := enTo_len P P.length
  change (endL P).length ≤ _ at hle
  have hn1 := HK.out.1.n1
  have hn2 := HK.out.1.n2
  have HB1 : Below w.heap.size w (w.alloc (.cells #[.slice A1 P.length c1, .slice A2 W.length c2, .slice A3 F.length c3] 28)) := (Below.refl _ _).alloc (Nat.le_refl _) _
  have bx := Bx3.new w (.slice A1 P.length c1) (.slice A2 W.length c2) (.slice A3 F.length c3) 28
  clear hC hCl
  go_enter Try.func116, Try.ntmps116
  go_upto_region 1 with fail
  generalize w.alloc (.cells #[.slice A1 P.length c1, .slice A2 W.length c2, .slice A3 F.length c3] 28) = v at *
  go_cut [9, 10, 11] (fun s9 s10 s11 wx => ∃ (g0 : Nat) (A5 A6 : Option Addr) (c0 c5 c6 : Nat), s9 = .slice (some ⟨g0, 0, none⟩) 0 c0 ∧ s10 = .slice A5 (wl P F H s).length c5 ∧ s11 = .slice A6 (endL P).length c6 ∧
    Own wx w.heap.size (some ⟨g0, 0, none⟩) c0 [] ∧ Own wx w.heap.size A5 c5 (wl P F H s) ∧ Own wx w.heap.size A6 c6 (endL P) ∧ blk A5 ≠ some g0 ∧ blk A6 ≠ some g0 ∧ Below w.heap.size w wx)
  case first =>
    obtain ⟨f0, f1, f2, fz⟩ := bx
    have hvv := h.below HB1 (Nat.le_refl _)
    have h4v := h4.below HB1 (Nat.le_refl _)
    have SK : Hid (∀ w', Below v.heap.size v w' → w'.cell? ⟨w.heap.size, 0, none⟩ = some (.slice A1 P.length c1) ∧ w'.cell? ⟨w.heap.size, 1, none⟩ = some (.slice A2 W.length c2) ∧ w'.cell? ⟨w.heap.size, 2, none⟩ = some (.slice A3 F.length c3)) :=
      Lib.hid fun w' HV => ⟨(HV.cell (p := ⟨w.heap.size, 0, none⟩) fz).trans f0, (HV.cell (p := ⟨w.heap.size, 1, none⟩) fz).trans f1, (HV.cell (p := ⟨w.heap.size, 2, none⟩) fz).trans f2⟩
    clear f0 f1 f2
    have hd : Below v.heap.size v v.drew := Below.drew (Below.refl _ _)
    have hS0 := SK.out v.drew hd
    refine tamed_region (S := fun w' => w'.cell? ⟨w.heap.size, 0, none⟩ = some (.slice A1 P.length c1) ∧ w'.cell? ⟨w.heap.size, 1, none⟩ = some (.slice A2 W.length c2) ∧ w'.cell? ⟨w.heap.size, 2, none⟩ = some (.slice A3 F.length c3)) (fun _ => false) (by kernel_rfl) ?_
    refine tame (k := 1) ?_ rfl (by kernel_rfl) (by kernel_rfl) (by kernel_rfl) (by kernel_rfl) (fun _ _ _ h => h) (by rfl) hS0 (fun v hv => ?_) ?_
    rotate_left
    · (obtain ⟨k1, k2, k3⟩ := hv; go_simp; all_goals rfl)
    simp only [Act.put, List.setIfInBounds_toArray]
    refine tame0 (k := 2) ?_ rfl (by kernel_rfl) (by kernel_rfl) (by kernel_rfl) (fun _ _ _ h => h) (by rfl) (fun v => ?_) ?_
    rotate_left
    · (go_simp; all_goals rfl)
    simp only [Act.put]
    refine tame0 (k := 3) ?_ rfl (by kernel_rfl) (by kernel_rfl) (by kernel_rfl) (fun _ _ _ h => h) (by rfl) (fun v => ?_) ?_
    rotate_left
    · (go_simp; all_goals rfl)
    simp only [Act.put]
    refine tame0 (k := 5) ?_ rfl (by kernel_rfl) (by kernel_rfl) (by kernel_rfl) (fun _ _ _ h => h) (by rfl) (fun v => ?_) ?_
    rotate_left
    · (go_simp; all_goals rfl)
    simp only [Act.put]
    refine tame (k := 6) ?_ rfl (by kernel_rfl) (by kernel_rfl) (by kernel_rfl) (by kernel_rfl) (fun _ _ _ h => h) (by rfl) hS0 (fun v hv => ?_) ?_
    rotate_left
    · (obtain ⟨k1, k2, k3⟩ := hv; go_simp; all_goals rfl)
    simp only [Act.put]
    clear hS0
    refine tame_two (i := 0) (j := 4) (by kernel_rfl) rfl rfl (by rfl) (by rfl) ?_ ?_
    · go_simp
      have o0 := Own.lit0 v.drew v.heap.size rfl
      have H0 : Below v.heap.size v (v.drew.alloc (.cells #[] 3)) := hd.alloc (Nat.le_refl _) _
      refine ⟨by first | exact SK.out _ H0 | exact SK.out v (Below.refl _ _), ?_⟩
      refine tame_one (k := 4) (by kernel_rfl) rfl (by rfl) ?_
      go_simp
      refine (l6Wealth_c A1 P c1 A2 W c2 A3 F c3 s A4 H c4 _ (hvv.below H0 (Nat.le_refl _)) (h4v.below H0 (Nat.le_refl _)) hok).mono ?_
      rintro e w5 ⟨A5, c5, rfl, o5, b5⟩
      have H5 := bUp H0 b5 H0.size
      have n5 := o0.apartR o5 (Nat.le_refl _)
      have o05 := o0.below b5
      refine ⟨SK.out _ H5, ?_⟩
      refine tame_one (k := 7) (by kernel_rfl) rfl (by rfl) ?_
      go_simp
      refine (l2Ends_c A1 P c1 A2 W.length c2 _ (hvv.below H5 (Nat.le_refl _)).r1 HK.out.1.par HK.out.1.n2).mono ?_
      rintro e w6 ⟨A6, c6, rfl, o6, b6⟩
      have H6 := bUp H5 b6 H5.size
      have n6 := o05.apartR o6 (Nat.le_refl _)
      have z0 := H0.size
      have z5 := H5.size
      refine ⟨SK.out _ H6, ?_⟩
      refine tame_one (k := 8) (by kernel_rfl) rfl (by rfl) ?_
      go_simp
      refine ⟨by first | exact SK.out _ H6 | exact SK.out _ H6, ?_⟩
      refine tame_one (k := 9) (by kernel_rfl) rfl (by rfl) ?_
      go_simp
      refine ⟨by first | exact SK.out _ H6 | exact SK.out _ H6, ?_⟩
      refine tame_one (k := 10) (by kernel_rfl) rfl (by rfl) ?_
      go_simp
      refine ⟨by first | exact SK.out _ H6 | exact SK.out _ H6, ?_⟩
      refine tame_end (by kernel_rfl) ?_
      go_wp2_with fail
      go_meet
      exact ⟨_, A5, A6, _, c5, c6, rfl, rfl, rfl, (o05.below b6).mono (by have := HB1.size; have : v.drew.heap.size = v.heap.size := rfl; omega), (o5.below b6).mono (by have := HB1.size; have : v.drew.heap.size = v.heap.size := rfl; omega), (o6).mono (by have := HB1.size; have : v.drew.heap.size = v.heap.size := rfl; omega), ne_none n5, ne_none n6, bUp HB1 H6 HB1.size⟩
    · go_simp
      refine (l6Wealth_c A1 P c1 A2 W c2 A3 F c3 s A4 H c4 _ (hvv.below hd (Nat.le_refl _)) (h4v.below hd (Nat.le_refl _)) hok).mono ?_
      rintro e w5 ⟨A5, c5, rfl, o5, b5⟩
      have H5 := bUp hd b5 (Nat.le_refl _)
      have z5 := H5.size
      refine ⟨SK.out _ H5, ?_⟩
      refine tame_two (i := 0) (j := 7) (by kernel_rfl) rfl rfl (by rfl) (by rfl) ?_ ?_
      · go_simp
        have o0 := Own.lit0 w5 w5.heap.size rfl
        have H0 : Below v.heap.size v (w5.alloc (.cells #[] 3)) := H5.alloc z5 _
        have n5 := o5.apart o0 (Nat.le_refl _)
        have o50 := o5.alloc (.cells #[] 3)
        refine ⟨by first | exact SK.out _ H0 | exact SK.out _ H5, ?_⟩
        refine tame_one (k := 7) (by kernel_rfl) rfl (by rfl) ?_
        go_simp
        refine (l2Ends_c A1 P c1 A2 W.length c2 _ (hvv.below H0 (Nat.le_refl _)).r1 HK.out.1.par HK.out.1.n2).mono ?_
        rintro e w6 ⟨A6, c6, rfl, o6, b6⟩
        have H6 := bUp H0 b6 H0.size
        have n6 := o0.apartR o6 (Nat.le_refl _)
        have z0 := H0.size
        refine ⟨SK.out _ H6, ?_⟩
        refine tame_one (k := 8) (by kernel_rfl) rfl (by rfl) ?_
        go_simp
        refine ⟨by first | exact SK.out _ H6 | exact SK.out _ H6, ?_⟩
        refine tame_one (k := 9) (by kernel_rfl) rfl (by rfl) ?_
        go_simp
        refine ⟨by first | exact SK.out _ H6 | exact SK.out _ H6, ?_⟩
        refine tame_one (k := 10) (by kernel_rfl) rfl (by rfl) ?_
        go_simp
        refine ⟨by first | exact SK.out _ H6 | exact SK.out _ H6, ?_⟩
        refine tame_end (by kernel_rfl) ?_
        go_wp2_with fail
        go_meet
        exact ⟨_, A5, A6, _, c5, c6, rfl, rfl, rfl, (o0.below b6).mono (by have := HB1.size; have : v.drew.heap.size = v.heap.size := rfl; omega), (o50.below b6).mono (by have := HB1.size; have : v.drew.heap.size = v.heap.size := rfl; omega), (o6).mono (by have := HB1.size; have : v.drew.heap.size = v.heap.size := rfl; omega), ne_none n5, ne_none n6, bUp HB1 H6 HB1.size⟩
      · go_simp
        refine (l2Ends_c A1 P c1 A2 W.length c2 _ (hvv.below H5 (Nat.le_refl _)).r1 HK.out.1.par HK.out.1.n2).mono ?_
        rintro e w6 ⟨A6, c6, rfl, o6, b6⟩
        have H6 := bUp H5 b6 H5.size
        have z6 := H6.size
        have o56 := o5.below b6
        have o0 := Own.lit0 w6 w6.heap.size rfl
        have H0 : Below v.heap.size v (w6.alloc (.cells #[] 3)) := H6.alloc z6 _
        have n5 := o56.apart o0 (Nat.le_refl _)
        have n6 := o6.apart o0 (Nat.le_refl _)
        refine ⟨SK.out _ H6, ?_⟩
        refine tame_one (k := 0) (by kernel_rfl) rfl (by rfl) ?_
        go_simp
        refine ⟨by first | exact SK.out _ H0 | exact SK.out _ H6, ?_⟩
        refine tame_one (k := 8) (by kernel_rfl) rfl (by rfl) ?_
        go_simp
        refine ⟨by first | exact SK.out _ H0 | exact SK.out _ H6, ?_⟩
        refine tame_one (k := 9) (by kernel_rfl) rfl (by rfl) ?_
        go_simp
        refine ⟨by first | exact SK.out _ H0 | exact SK.out _ H6, ?_⟩
        refine tame_one (k := 10) (by kernel_rfl) rfl (by rfl) ?_
        go_simp
        refine ⟨by first | exact SK.out _ H0 | exact SK.out _ H6, ?_⟩
        refine tame_end (by kernel_rfl) ?_
        go_wp2_with fail
        go_meet
        exact ⟨_, A5, A6, _, c5, c6, rfl, rfl, rfl, (o0).mono (by have := HB1.size; have : v.drew.heap.size = v.heap.size := rfl; omega), (o56.alloc _).mono (by have := HB1.size; have : v.drew.heap.size = v.heap.size := rfl; omega), (o6.alloc _).mono (by have := HB1.size; have : v.drew.heap.size = v.heap.size := rfl; omega), ne_none n5, ne_none n6, bUp HB1 H0 HB1.size⟩
  case rest =>
  obtain ⟨g0, A5, A6, c0, c5, c6, rfl, rfl, rfl, o0, o5, o6, n5, n6, HB2⟩ := hcut
  have h7w := h7.below HB2 (Nat.le_refl _)
  go_wp2
  go_loopw [9, 12] (fun t i wr => ∃ k : Nat, ∃ A c, k ≤ (endL P).length ∧ i = .int .i64 (k : Int) ∧ t = .slice A k c ∧ Own wr w.heap.size A c (gapTo P F H C s k) ∧ Own wr w.heap.size A5 c5 (wl P F H s) ∧ Own wr w.heap.size A6 c6 (endL P) ∧ (A5 = none ∨ blk A5 ≠ blk A) ∧ (A6 = none ∨ blk A6 ≠ blk A) ∧ Below w.heap.size w wr) (fun _ i _ => (endL P).length - (intOf i).toNat)
  case atStart => exact ⟨0, _, _, by omega, rfl, rfl, o0, o5, o6, .inr n5, .inr n6, HB2⟩
  case round =>
    obtain ⟨wo, rfl⟩ : ∃ wo : World, wo = wr := ⟨_, rfl⟩
    obtain ⟨k, A, c, hk, rfl, rfl, ho, ow, oe, m5, m6, hB⟩ := hrel
    clear o0 o5 o6 n5 n6 HB2 h7w
    by_cases hlt : k < (endL P).length
    · obtain ⟨a6, rfl, q6⟩ := oe.rd.intN hlt
      obtain ⟨j, hj, hje, hjn⟩ := endL_nth hlt
      rw [hjn] at q6
      have hwl : (wl P F H s).length = P.length := by rw [wl, wlL_length]; omega
      obtain ⟨a5, rfl, q5⟩ := ow.rd.intN (k := j) (by omega)
      obtain ⟨a7, rfl, q7⟩ := (h7.below hB (Nat.le_refl _)).intN (k := k) (by have := HCL.out.1; omega)
      have bw := wlE_bd HO.out k
      have bc := allB_nth HCL.out.2 (k := k) (by have := HCL.out.1; omega)
      have hE : nth (wl P F H s) j = wlE P F H s k := by rw [wlE, hjn, Int.toNat_natCast]
      rw [← hE] at bw
      have e1 : IntKind.i64.wrap (nth (wl P F H s) j - nth C k) = nth (wl P F H s) j - nth C k := IntWalk.i64_in _ (by omega)
      have HS := Lib.hid (gapTo_succ P F H C s k)
      have HE := Lib.hid hE
      have i1 : (0 : Int) ≤ (k : Int) := by omega
      have i2 : (k : Int) < ((endL P).length : Int) := by omega
      have i3 : (0 : Int) ≤ (j : Int) := by omega
      have i4 : (j : Int) < ((wl P F H s).length : Int) := by omega
      have i5 : (k : Int) < (C.length : Int) := by have := HCL.out.1; omega
      have hgl := hB.size
      clear hE hjn hwl bw bc
      have hS0 : (fun w' : World => w'.cell? (a6.add k) = some (.int .i64 (j : Int)) ∧ w'.cell? (a5.add j) = some (.int .i64 (nth (wl P F H s) j)) ∧ w'.cell? (a7.add k) = some (.int .i64 (nth C k))) wo.drew := ⟨q6, q5, q7⟩
      go_wp2
      clear q5 q6 q7
      refine tamed_region (S := fun w' => w'.cell? (a6.add k) = some (.int .i64 (j : Int)) ∧ w'.cell? (a5.add j) = some (.int .i64 (nth (wl P F H s) j)) ∧ w'.cell? (a7.add k) = some (.int .i64 (nth C k))) (fun k => decide (13 ≤ k)) (by kernel_rfl) ?_
      refine tame0 (k := 0) ?_ rfl (by kernel_rfl) (by kernel_rfl) (by kernel_rfl) (fun _ _ _ h => h) (by rfl) (fun v => ?_) ?_
      rotate_left
      · (go_simp; all_goals rfl)
      simp only [Act.put, List.setIfInBounds_toArray]
      refine tame0 (k := 1) ?_ rfl (by kernel_rfl) (by kernel_rfl) (by kernel_rfl) (fun _ _ _ h => h) (by rfl) (fun v => ?_) ?_
      rotate_left
      · (go_simp; all_goals rfl)
      simp only [Act.put]
      refine tame0 (k := 2) ?_ rfl (by kernel_rfl) (by kernel_rfl) (by kernel_rfl) (fun _ _ _ h => h) (by rfl) (fun v => ?_) ?_
      rotate_left
      · (go_simp; all_goals rfl)
      simp only [Act.put]
      refine tame0 (k := 3) ?_ rfl (by kernel_rfl) (by kernel_rfl) (by kernel_rfl) (fun _ _ _ h => h) (by rfl) (fun v => ?_) ?_
      rotate_left
      · (go_simp; all_goals rfl)
      simp only [Act.put]
      refine tame0 (k := 4) ?_ rfl (by kernel_rfl) (by kernel_rfl) (by kernel_rfl) (fun _ _ _ h => h) (by rfl) (fun v => ?_) ?_
      rotate_left
      · (go_simp; all_goals rfl)
      simp only [Act.put]
      refine tameT (k := 5) ?_ rfl (by kernel_rfl) (by kernel_rfl) (by kernel_rfl) (by kernel_rfl) (by kernel_rfl) (fun _ _ _ h => h) (by rfl) hS0 (fun v hv => ?_) ?_
      rotate_left
      · (obtain ⟨k1, k2, k3⟩ := hv; go_simp; all_goals rfl)
      simp only [Act.put]
      refine tame0 (k := 6) ?_ rfl (by kernel_rfl) (by kernel_rfl) (by kernel_rfl) (fun _ _ _ h => h) (by rfl) (fun v => ?_) ?_
      rotate_left
      · (go_simp; all_goals rfl)
      simp only [Act.put]
      refine tameT (k := 7) ?_ rfl (by kernel_rfl) (by kernel_rfl) (by kernel_rfl) (by kernel_rfl) (by kernel_rfl) (fun _ _ _ h => h) (by rfl) hS0 (fun v hv => ?_) ?_
      rotate_left
      · (obtain ⟨k1, k2, k3⟩ := hv; go_simp; all_goals rfl)
      simp only [Act.put]
      refine tame0 (k := 8) ?_ rfl (by kernel_rfl) (by kernel_rfl) (by kernel_rfl) (fun _ _ _ h => h) (by rfl) (fun v => ?_) ?_
      rotate_left
      · (go_simp; all_goals rfl)
      simp only [Act.put]
      refine tame0 (k := 9) ?_ rfl (by kernel_rfl) (by kernel_rfl) (by kernel_rfl) (fun _ _ _ h => h) (by rfl) (fun v => ?_) ?_
      rotate_left
      · (go_simp; all_goals rfl)
      simp only [Act.put]
      refine tame0 (k := 10) ?_ rfl (by kernel_rfl) (by kernel_rfl) (by kernel_rfl) (fun _ _ _ h => h) (by rfl) (fun v => ?_) ?_
      rotate_left
      · (go_simp; all_goals rfl)
      simp only [Act.put]
      refine tameT (k := 11) ?_ rfl (by kernel_rfl) (by kernel_rfl) (by kernel_rfl) (by kernel_rfl) (by kernel_rfl) (fun _ _ _ h => h) (by rfl) hS0 (fun v hv => ?_) ?_
      rotate_left
      · (obtain ⟨k1, k2, k3⟩ := hv; go_simp; all_goals rfl)
      simp only [Act.put]
      refine tame0 (k := 12) ?_ rfl (by kernel_rfl) (by kernel_rfl) (by kernel_rfl) (fun _ _ _ h => h) (by rfl) (fun v => ?_) ?_
      rotate_left
      · (go_simp; all_goals rfl)
      simp only [Act.put]
      clear hS0
      refine tame_one (k := 13) (by kernel_rfl) rfl (by rfl) ?_
      go_simp
      refine tame_one (k := 14) (by kernel_rfl) rfl (by rfl) ?_
      refine op_append_ints _ (.tmp 27) (.tmp 40) rfl w.heap.size A k c (gapTo P F H C s k) rfl (by rw [gapTo_length]) (ho.alloc _).drew (some ⟨wo.heap.size, 0, none⟩) 1 1 [nth (wl P F H s) j - nth C k] rfl rfl (Rd.box wo _ _).drew (by rw [gapTo_length]; simp; omega) (by simp; omega) ?_
      rw [HE.out, ← HS.out]
      intro A2 c2 w3 ho2 hg2 hb2
      refine ⟨fun h => by simp at h, ?_⟩
      have hg3 := grown_of_alloc_drew hg2
      have HB3 := hB.grown hg3 hB.size ho.ge
      have ow3 := ow.grown hg3 m5
      have oe3 := oe.grown hg3 m6
      have m5' : some a5 = none ∨ blk (some a5) ≠ blk A2 := by
        rcases hb2 with hb | hb
        · rw [hb]; exact m5
        · right
          rw [hb]
          have := (ow.lt _ rfl).2
          simp [blk]; omega
      have m6' : some a6 = none ∨ blk (some a6) ≠ blk A2 := by
        rcases hb2 with hb | hb
        · rw [hb]; exact m6
        · right
          rw [hb]
          have := (oe.lt _ rfl).2
          simp [blk]; omega
      clear hg2 hg3 e1 hb2 ow oe m5 m6
      refine tame_one (k := 15) (by kernel_rfl) rfl (by rfl) ?_
      go_simp
      refine tame_end (by kernel_rfl) ?_
      go_wp2
      go_roundw
      case rel => exact ⟨k + 1, A2, c2, by omega, by go_num, rfl, ho2, ow3, oe3, m5', m6', HB3⟩
      case measure => simp [intOf] <;> omega
    · have hkn : k = (endL P).length := by omega
      subst hkn
      go_wp2
      go_ret
      exact ⟨A, c, by rw [gapTo_length] <;> rfl, ho, hB⟩
end Go.Proofs.Ytnhclpajfejnoaa
