/- Covering and matching claims: both. -/
import Derived.Test.YtnhclpajfejnoaaWoI
namespace Go.Proofs.Ytnhclpajfejnoaa
open Go.RowKit

def gapTo (P F H C : List Int) (s : Int) (k : Nat) : List Int := (List.range k).map fun i => wlE P F H s i - nth C i
theorem gapTo_succ (P F H C : List Int) (s : Int) (k : Nat) : gapTo P F H C s (k + 1) = gapTo P F H C s k ++ [wlE P F H s k - nth C k] := by simp [gapTo, List.range_succ]
theorem gapTo_length (P F H C : List Int) (s : Int) (k : Nat) : (gapTo P F H C s k).length = k := by simp [gapTo]
theorem gapTo_nth {P F H C : List Int} {s : Int} {k i : Nat} (h : i < k) : nth (gapTo P F H C s k) i = wlE P F H s i - nth C i := by simp [nth, gapTo, h]
theorem ne_none {A : Option Addr} {g : Nat} (h : A = none ∨ blk A ≠ blk (some ⟨g, 0, none⟩)) : blk A ≠ some g := by
  rcases h with rfl | h
  · simp [blk]
  · exact h
theorem wlE_bd {P W F H : List Int} {s : Int} (h : hlB P W F H s = true) (i : Nat) : -50000 ≤ wlE P F H s i ∧ wlE P F H s i ≤ 50000 := by
  have HK := hlB_yes h
  have := wlL_bd (P := P) HK.2.2.1 HK.2.2.2.2.2 HK.2.2.2.1 (P.length - 1) (nth (endL P) i).toNat
  have := HK.1.n2
  unfold wlE wl
  omega

set_option maxRecDepth 20000 in
set_option maxHeartbeats 2000000 in
theorem l6Gaps_c (A1 : Option Addr) (P : List Int) (c1 : Nat) (A2 : Option Addr) (W : List Int) (c2 : Nat) (A3 : Option Addr) (F : List Int) (c3 : Nat) (s : Int) (A4 : Option Addr) (H : List Int) (c4 : Nat) (A7 : Option Addr) (C : List Int) (c7 : Nat) (w : World) (h : RdM w A1 P A2 W A3 F) (h4 : Rd w A4 (ints H)) (h7 : Rd w A7 (ints C))
    (hok : hlB P W F H s = true) (hC : clmB P C = true) :
    Calls Try.prog 116 #[mkV A1 P.length c1 A2 W.length c2 A3 F.length c3, .int .i64 s, .slice A4 H.length c4, .slice A7 C.length c7] w (Row w (gapTo P F H C s (endL P).length)) := by
  have HK := Lib.hid (hlB_yes hok)
  have HO := Lib.hid hok
  have hCl : C.length = (endL P).length ∧ allB C (-99) 99 = true := by simpa [clmB] using hC
  have HCL := Lib.hid hCl
  have hle := enTo_len P P.length
  change (endL P).length ≤ _ at hle
  have hn1 := HK.out.1.n1
  have hn2 := HK.out.1.n2
  have HB1 : Below w.heap.size w (w.alloc (.cells #[.slice A1 P.length c1, .slice A2 W.length c2, .slice A3 F.length c3] 28)) := (Below.refl _ _).alloc (Nat.le_refl _) _
  have bx := Bx3.new w (.slice A1 P.length c1) (.slice A2 W.length c2) (.slice A3 F.length c3) 28
  clear hC hCl
  go_enter Try.func116, Try.ntmps116
  go_upto_region 1 with fail
  generalize w.alloc (.cells #[.slice A1 P.length c1, .slice A2 W.length c2, .slice A3 F.length c3] 28) = v at *
  go_cut [9, 10, 11] (fun s9 s10 s11 wx => ∃ (g0 : Nat) (A5 A6 : Option Addr) (c0 c5 c6 : Nat), s9 = .slice (some ⟨g0, 0, none⟩) 0 c0 ∧ s10 = .slice A5 (wl P F H s).length c5 ∧ s11 = .slice A6 (endL P).length c6 ∧
    Own wx w.heap.size (some ⟨g0, 0, none⟩) c0 [] ∧ Own wx w.heap.size A5 c5 (wl P F H s) ∧ Own wx w.heap.size A6 c6 (endL P) ∧ blk A5 ≠ some g0 ∧ blk A6 ≠ some g0 ∧ Below w.heap.size w wx)
  case first =>
    obtain ⟨f0, f1, f2, fz⟩ := bx
    have hvv := h.below HB1 (Nat.le_refl _)
    have h4v := h4.below HB1 (Nat.le_refl _)
    have SK : Hid (∀ w', Below v.heap.size v w' → w'.cell? ⟨w.heap.size, 0, none⟩ = some (.slice A1 P.length c1) ∧ w'.cell? ⟨w.heap.size, 1, none⟩ = some (.slice A2 W.length c2) ∧ w'.cell? ⟨w.heap.size, 2, none⟩ = some (.slice A3 F.length c3)) :=
      Lib.hid fun w' HV => ⟨(HV.cell (p := ⟨w.heap.size, 0, none⟩) fz).trans f0, (HV.cell (p := ⟨w.heap.size, 1, none⟩) fz).trans f1, (HV.cell (p := ⟨w.heap.size, 2, none⟩) fz).trans f2⟩
    clear f0 f1 f2
    have hd : Below v.heap.size v v.drew := Below.drew (Below.refl _ _)
    have hS0 := SK.out v.drew hd
    refine tamed_region (S := fun w' => w'.cell? ⟨w.heap.size, 0, none⟩ = some (.slice A1 P.length c1) ∧ w'.cell? ⟨w.heap.size, 1, none⟩ = some (.slice A2 W.length c2) ∧ w'.cell? ⟨w.heap.size, 2, none⟩ = some (.slice A3 F.length c3)) (fun _ => false) (by kernel_rfl) ?_
    refine tame (k := 1) ?_ rfl (by kernel_rfl) (by kernel_rfl) (by kernel_rfl) (by kernel_rfl) (fun _ _ _ h => h) (by rfl) hS0 (fun v hv => ?_) ?_
    rotate_left
    · (obtain ⟨k1, k2, k3⟩ := hv; go_simp; all_goals rfl)
    simp only [Act.put, List.setIfInBounds_toArray]
    refine tame0 (k := 2) ?_ rfl (by kernel_rfl) (by kernel_rfl) (by kernel_rfl) (fun _ _ _ h => h) (by rfl) (fun v => ?_) ?_
    rotate_left
    · (go_simp; all_goals rfl)
    simp only [Act.put]
    refine tame0 (k := 3) ?_ rfl (by kernel_rfl) (by kernel_rfl) (by kernel_rfl) (fun _ _ _ h => h) (by rfl) (fun v => ?_) ?_
    rotate_left
    · (go_simp; all_goals rfl)
    simp only [Act.put]
    refine tame0 (k := 5) ?_ rfl (by kernel_rfl) (by kernel_rfl) (by kernel_rfl) (fun _ _ _ h => h) (by rfl) (fun v => ?_) ?_
    rotate_left
    · (go_simp; all_goals rfl)
    simp only [Act.put]
    refine tame (k := 6) ?_ rfl (by kernel_rfl) (by kernel_rfl) (by kernel_rfl) (by kernel_rfl) (fun _ _ _ h => h) (by rfl) hS0 (fun v hv => ?_) ?_
    rotate_left
    · (obtain ⟨k1, k2, k3⟩ := hv; go_simp; all_goals rfl)
    simp only [Act.put]
    clear hS0
    refine tame_two (i := 0) (j := 4) (by kernel_rfl) rfl rfl (by rfl) (by rfl) ?_ ?_
    · go_simp
      have o0 := Own.lit0 v.drew v.heap.size rfl
      have H0 : Below v.heap.size v (v.drew.alloc (.cells #[] 3)) := hd.alloc (Nat.le_refl _) _
      refine ⟨by first | exact SK.out _ H0 | exact SK.out v (Below.refl _ _), ?_⟩
      refine tame_one (k := 4) (by kernel_rfl) rfl (by rfl) ?_
      go_simp
      refine (l6Wealth_c A1 P c1 A2 W c2 A3 F c3 s A4 H c4 _ (hvv.below H0 (Nat.le_refl _)) (h4v.below H0 (Nat.le_refl _)) hok).mono ?_
      rintro e w5 ⟨A5, c5, rfl, o5, b5⟩
      have H5 := bUp H0 b5 H0.size
      have n5 := o0.apartR o5 (Nat.le_refl _)
      have o05 := o0.below b5
      refine ⟨SK.out _ H5, ?_⟩
      refine tame_one (k := 7) (by kernel_rfl) rfl (by rfl) ?_
      go_simp
      refine (l2Ends_c A1 P c1 A2 W.length c2 _ (hvv.below H5 (Nat.le_refl _)).r1 HK.out.1.par HK.out.1.n2).mono ?_
      rintro e w6 ⟨A6, c6, rfl, o6, b6⟩
      have H6 := bUp H5 b6 H5.size
      have n6 := o05.apartR o6 (Nat.le_refl _)
      have z0 := H0.size
      have z5 := H5.size
      refine ⟨SK.out _ H6, ?_⟩
      refine tame_one (k := 8) (by kernel_rfl) rfl (by rfl) ?_
      go_simp
      refine ⟨by first | exact SK.out _ H6 | exact SK.out _ H6, ?_⟩
      refine tame_one (k := 9) (by kernel_rfl) rfl (by rfl) ?_
      go_simp
      refine ⟨by first | exact SK.out _ H6 | exact SK.out _ H6, ?_⟩
      refine tame_one (k := 10) (by kernel_rfl) rfl (by rfl) ?_
      go_simp
      refine ⟨by first | exact SK.out _ H6 | exact SK.out _ H6, ?_⟩
      refine tame_end (by kernel_rfl) ?_
      go_wp2_with fail
      go_meet
      exact ⟨_, A5, A6, _, c5, c6, rfl, rfl, rfl, (o05.below b6).mono (by have := HB1.size; have : v.drew.heap.size = v.heap.size := rfl; omega), (o5.below b6).mono (by have := HB1.size; have : v.drew.heap.size = v.heap.size := rfl; omega), (o6).mono (by have := HB1.size; have : v.drew.heap.size = v.heap.size := rfl; omega), ne_none n5, ne_none n6, bUp HB1 H6 HB1.size⟩
    · go_simp
      refine (l6Wealth_c A1 P c1 A2 W c2 A3 F c3 s A4 H c4 _ (hvv.below hd (Nat.le_refl _)) (h4v.below hd (Nat.le_refl _)) hok).mono ?_
      rintro e w5 ⟨A5, c5, rfl, o5, b5⟩
      have H5 := bUp hd b5 (Nat.le_refl _)
      have z5 := H5.size
      refine ⟨SK.out _ H5, ?_⟩
      refine tame_two (i := 0) (j := 7) (by kernel_rfl) rfl rfl (by rfl) (by rfl) ?_ ?_
      · go_simp
        have o0 := Own.lit0 w5 w5.heap.size rfl
        have H0 : Below v.heap.size v (w5.alloc (.cells #[] 3)) := H5.alloc z5 _
        have n5 := o5.apart o0 (Nat.le_refl _)
        have o50 := o5.alloc (.cells #[] 3)
        refine ⟨by first | exact SK.out _ H0 | exact SK.out _ H5, ?_⟩
        refine tame_one (k := 7) (by kernel_rfl) rfl (by rfl) ?_
        go_simp
        refine (l2Ends_c A1 P c1 A2 W.length c2 _ (hvv.below H0 (Nat.le_refl _)).r1 HK.out.1.par HK.out.1.n2).mono ?_
        rintro e w6 ⟨A6, c6, rfl, o6, b6⟩
        have H6 := bUp H0 b6 H0.size
        have n6 := o0.apartR o6 (Nat.le_refl _)
        have z0 := H0.size
        refine ⟨SK.out _ H6, ?_⟩
        refine tame_one (k := 8) (by kernel_rfl) rfl (by rfl) ?_
        go_simp
        refine ⟨by first | exact SK.out _ H6 | exact SK.out _ H6, ?_⟩
        refine tame_one (k := 9) (by kernel_rfl) rfl (by rfl) ?_
        go_simp
        refine ⟨by first | exact SK.out _ H6 | exact SK.out _ H6, ?_⟩
        refine tame_one (k := 10) (by kernel_rfl) rfl (by rfl) ?_
        go_simp
        refine ⟨by first | exact SK.out _ H6 | exact SK.out _ H6, ?_⟩
        refine tame_end (by kernel_rfl) ?_
        go_wp2_with fail
        go_meet
        exact ⟨_, A5, A6, _, c5, c6, rfl, rfl, rfl, (o0.below b6).mono (by have := HB1.size; have : v.drew.heap.size = v.heap.size := rfl; omega), (o50.below b6).mono (by have := HB1.size; have : v.drew.heap.size = v.heap.size := rfl; omega), (o6).mono (by have := HB1.size; have : v.drew.heap.size = v.heap.size := rfl; omega), ne_none n5, ne_none n6, bUp HB1 H6 HB1.size⟩
      · go_simp
        refine (l2Ends_c A1 P c1 A2 W.length c2 _ (hvv.below H5 (Nat.le_refl _)).r1 HK.out.1.par HK.out.1.n2).mono ?_
        rintro e w6 ⟨A6, c6, rfl, o6, b6⟩
        have H6 := bUp H5 b6 H5.size
        have z6 := H6.size
        have o56 := o5.below b6
        have o0 := Own.lit0 w6 w6.heap.size rfl
        have H0 : Below v.heap.size v (w6.alloc (.cells #[] 3)) := H6.alloc z6 _
        have n5 := o56.apart o0 (Nat.le_refl _)
        have n6 := o6.apart o0 (Nat.le_refl _)
        refine ⟨SK.out _ H6, ?_⟩
        refine tame_one (k := 0) (by kernel_rfl) rfl (by rfl) ?_
        go_simp
        refine ⟨by first | exact SK.out _ H0 | exact SK.out _ H6, ?_⟩
        refine tame_one (k := 8) (by kernel_rfl) rfl (by rfl) ?_
        go_simp
        refine ⟨by first | exact SK.out _ H0 | exact SK.out _ H6, ?_⟩
        refine tame_one (k := 9) (by kernel_rfl) rfl (by rfl) ?_
        go_simp
        refine ⟨by first | exact SK.out _ H0 | exact SK.out _ H6, ?_⟩
        refine tame_one (k := 10) (by kernel_rfl) rfl (by rfl) ?_
        go_simp
        refine ⟨by first | exact SK.out _ H0 | exact SK.out _ H6, ?_⟩
        refine tame_end (by kernel_rfl) ?_
        go_wp2_with fail
        go_meet
        exact ⟨_, A5, A6, _, c5, c6, rfl, rfl, rfl, (o0).mono (by have := HB1.size; have : v.drew.heap.size = v.heap.size := rfl; omega), (o56.alloc _).mono (by have := HB1.size; have : v.drew.heap.size = v.heap.size := rfl; omega), (o6.alloc _).mono (by have := HB1.size; have : v.drew.heap.size = v.heap.size := rfl; omega), ne_none n5, ne_none n6, bUp HB1 H0 HB1.size⟩
  case rest =>
  obtain ⟨g0, A5, A6, c0, c5, c6, rfl, rfl, rfl, o0, o5, o6, n5, n6, HB2⟩ := hcut
  have h7w := h7.below HB2 (Nat.le_refl _)
  go_wp2
  go_loopw [9, 12] (fun t i wr => ∃ k : Nat, ∃ A c, k ≤ (endL P).length ∧ i = .int .i64 (k : Int) ∧ t = .slice A k c ∧ Own wr w.heap.size A c (gapTo P F H C s k) ∧ Own wr w.heap.size A5 c5 (wl P F H s) ∧ Own wr w.heap.size A6 c6 (endL P) ∧ (A5 = none ∨ blk A5 ≠ blk A) ∧ (A6 = none ∨ blk A6 ≠ blk A) ∧ Below w.heap.size w wr) (fun _ i _ => (endL P).length - (intOf i).toNat)
  case atStart => exact ⟨0, _, _, by omega, rfl, rfl, o0, o5, o6, .inr n5, .inr n6, HB2⟩
  case round =>
    obtain ⟨wo, rfl⟩ : ∃ wo : World, wo = wr := ⟨_, rfl⟩
    obtain ⟨k, A, c, hk, rfl, rfl, ho, ow, oe, m5, m6, hB⟩ := hrel
    clear o0 o5 o6 n5 n6 HB2 h7w
    by_cases hlt : k < (endL P).length
    · obtain ⟨a6, rfl, q6⟩ := oe.rd.intN hlt
      obtain ⟨j, hj, hje, hjn⟩ := endL_nth hlt
      rw [hjn] at q6
      have hwl : (wl P F H s).length = P.length := by rw [wl, wlL_length]; omega
      obtain ⟨a5, rfl, q5⟩ := ow.rd.intN (k := j) (by omega)
      obtain ⟨a7, rfl, q7⟩ := (h7.below hB (Nat.le_refl _)).intN (k := k) (by have := HCL.out.1; omega)
      have bw := wlE_bd HO.out k
      have bc := allB_nth HCL.out.2 (k := k) (by have := HCL.out.1; omega)
      have hE : nth (wl P F H s) j = wlE P F H s k := by rw [wlE, hjn, Int.toNat_natCast]
      rw [← hE] at bw
      have e1 : IntKind.i64.wrap (nth (wl P F H s) j - nth C k) = nth (wl P F H s) j - nth C k := IntWalk.i64_in _ (by omega)
      have HS := Lib.hid (gapTo_succ P F H C s k)
      have HE := Lib.hid hE
      have i1 : (0 : Int) ≤ (k : Int) := by omega
      have i2 : (k : Int) < ((endL P).length : Int) := by omega
      have i3 : (0 : Int) ≤ (j : Int) := by omega
      have i4 : (j : Int) < ((wl P F H s).length : Int) := by omega
      have i5 : (k : Int) < (C.length : Int) := by have := HCL.out.1; omega
      have hgl := hB.size
      clear hE hjn hwl bw bc
      have hS0 : (fun w' : World => w'.cell? (a6.add k) = some (.int .i64 (j : Int)) ∧ w'.cell? (a5.add j) = some (.int .i64 (nth (wl P F H s) j)) ∧ w'.cell? (a7.add k) = some (.int .i64 (nth C k))) wo.drew := ⟨q6, q5, q7⟩
      go_wp2
      clear q5 q6 q7
      refine tamed_region (S := fun w' => w'.cell? (a6.add k) = some (.int .i64 (j : Int)) ∧ w'.cell? (a5.add j) = some (.int .i64 (nth (wl P F H s) j)) ∧ w'.cell? (a7.add k) = some (.int .i64 (nth C k))) (fun k => decide (13 ≤ k)) (by kernel_rfl) ?_
      refine tame0 (k := 0) ?_ rfl (by kernel_rfl) (by kernel_rfl) (by kernel_rfl) (fun _ _ _ h => h) (by rfl) (fun v => ?_) ?_
      rotate_left
      · (go_simp; all_goals rfl)
      simp only [Act.put, List.setIfInBounds_toArray]
      refine tame0 (k := 1) ?_ rfl (by kernel_rfl) (by kernel_rfl) (by kernel_rfl) (fun _ _ _ h => h) (by rfl) (fun v => ?_) ?_
      rotate_left
      · (go_simp; all_goals rfl)
      simp only [Act.put]
      refine tame0 (k := 2) ?_ rfl (by kernel_rfl) (by kernel_rfl) (by kernel_rfl) (fun _ _ _ h => h) (by rfl) (fun v => ?_) ?_
      rotate_left
      · (go_simp; all_goals rfl)
      simp only [Act.put]
      refine tame0 (k := 3) ?_ rfl (by kernel_rfl) (by kernel_rfl) (by kernel_rfl) (fun _ _ _ h => h) (by rfl) (fun v => ?_) ?_
      rotate_left
      · (go_simp; all_goals rfl)
      simp only [Act.put]
      refine tame0 (k := 4) ?_ rfl (by kernel_rfl) (by kernel_rfl) (by kernel_rfl) (fun _ _ _ h => h) (by rfl) (fun v => ?_) ?_
      rotate_left
      · (go_simp; all_goals rfl)
      simp only [Act.put]
      refine tameT (k := 5) ?_ rfl (by kernel_rfl) (by kernel_rfl) (by kernel_rfl) (by kernel_rfl) (by kernel_rfl) (fun _ _ _ h => h) (by rfl) hS0 (fun v hv => ?_) ?_
      rotate_left
      · (obtain ⟨k1, k2, k3⟩ := hv; go_simp; all_goals rfl)
      simp only [Act.put]
      refine tame0 (k := 6) ?_ rfl (by kernel_rfl) (by kernel_rfl) (by kernel_rfl) (fun _ _ _ h => h) (by rfl) (fun v => ?_) ?_
      rotate_left
      · (go_simp; all_goals rfl)
      simp only [Act.put]
      refine tameT (k := 7) ?_ rfl (by kernel_rfl) (by kernel_rfl) (by kernel_rfl) (by kernel_rfl) (by kernel_rfl) (fun _ _ _ h => h) (by rfl) hS0 (fun v hv => ?_) ?_
      rotate_left
      · (obtain ⟨k1, k2, k3⟩ := hv; go_simp; all_goals rfl)
      simp only [Act.put]
      refine tame0 (k := 8) ?_ rfl (by kernel_rfl) (by kernel_rfl) (by kernel_rfl) (fun _ _ _ h => h) (by rfl) (fun v => ?_) ?_
      rotate_left
      · (go_simp; all_goals rfl)
      simp only [Act.put]
      refine tame0 (k := 9) ?_ rfl (by kernel_rfl) (by kernel_rfl) (by kernel_rfl) (fun _ _ _ h => h) (by rfl) (fun v => ?_) ?_
      rotate_left
      · (go_simp; all_goals rfl)
      simp only [Act.put]
      refine tame0 (k := 10) ?_ rfl (by kernel_rfl) (by kernel_rfl) (by kernel_rfl) (fun _ _ _ h => h) (by rfl) (fun v => ?_) ?_
      rotate_left
      · (go_simp; all_goals rfl)
      simp only [Act.put]
      refine tameT (k := 11) ?_ rfl (by kernel_rfl) (by kernel_rfl) (by kernel_rfl) (by kernel_rfl) (by kernel_rfl) (fun _ _ _ h => h) (by rfl) hS0 (fun v hv => ?_) ?_
      rotate_left
      · (obtain ⟨k1, k2, k3⟩ := hv; go_simp; all_goals rfl)
      simp only [Act.put]
      refine tame0 (k := 12) ?_ rfl (by kernel_rfl) (by kernel_rfl) (by kernel_rfl) (fun _ _ _ h => h) (by rfl) (fun v => ?_) ?_
      rotate_left
      · (go_simp; all_goals rfl)
      simp only [Act.put]
      clear hS0
      refine tame_one (k := 13) (by kernel_rfl) rfl (by rfl) ?_
      go_simp
      refine tame_one (k := 14) (by kernel_rfl) rfl (by rfl) ?_
      refine op_append_ints _ (.tmp 27) (.tmp 40) rfl w.heap.size A k c (gapTo P F H C s k) rfl (by rw [gapTo_length]) (ho.alloc _).drew (some ⟨wo.heap.size, 0, none⟩) 1 1 [nth (wl P F H s) j - nth C k] rfl rfl (Rd.box wo _ _).drew (by rw [gapTo_length]; simp; omega) (by simp; omega) ?_
      rw [HE.out, ← HS.out]
      intro A2 c2 w3 ho2 hg2 hb2
      refine ⟨fun h => by simp at h, ?_⟩
      have hg3 := grown_of_alloc_drew hg2
      have HB3 := hB.grown hg3 hB.size ho.ge
      have ow3 := ow.grown hg3 m5
      have oe3 := oe.grown hg3 m6
      have m5' : some a5 = none ∨ blk (some a5) ≠ blk A2 := by
        rcases hb2 with hb | hb
        · rw [hb]; exact m5
        · right
          rw [hb]
          have := (ow.lt _ rfl).2
          simp [blk]; omega
      have m6' : some a6 = none ∨ blk (some a6) ≠ blk A2 := by
        rcases hb2 with hb | hb
        · rw [hb]; exact m6
        · right
          rw [hb]
          have := (oe.lt _ rfl).2
          simp [blk]; omega
      clear hg2 hg3 e1 hb2 ow oe m5 m6
      refine tame_one (k := 15) (by kernel_rfl) rfl (by rfl) ?_
      go_simp
      refine tame_end (by kernel_rfl) ?_
      go_wp2
      go_roundw
      case rel => exact ⟨k + 1, A2, c2, by omega, by go_num, rfl, ho2, ow3, oe3, m5', m6', HB3⟩
      case measure => simp [intOf] <;> omega
    · have hkn : k = (endL P).length := by omega
      subst hkn
      go_wp2
      go_ret
      exact ⟨A, c, by rw [gapTo_length] <;> rfl, ho, hB⟩

theorem clmB_1 {P C : List Int} (h : C.length ≠ (endL P).length) : clmB P C = false := by simp [clmB, h]
theorem clmB_2 {P C : List Int} {q : Bool} (h1 : C.length = (endL P).length) (h : allB C (-99) 99 = q) : clmB P C = q := by simp [clmB, h1, h]
theorem clmB_3 {P C : List Int} (h : allB C (-99) 99 = false) : clmB P C = false := by simp [clmB, h]
theorem areClaims_c (A1 : Option Addr) (P : List Int) (c1 : Nat) (A2 : Option Addr) (W : List Int) (c2 : Nat) (A3 : Option Addr) (F : List Int) (c3 : Nat) (A7 : Option Addr) (C : List Int) (c7 : Nat) (w : World) (h : RdM w A1 P A2 W A3 F) (h7 : Rd w A7 (ints C)) (hl7 : C.length ≤ 16777216) (hm : mktB P W F = true) :
    Calls Try.prog 125 #[mkV A1 P.length c1 A2 W.length c2 A3 F.length c3, .slice A7 C.length c7] w (Quietly w (.bool (clmB P C))) := by
  have HB1 : Below w.heap.size w (w.alloc (.cells #[.slice A1 P.length c1, .slice A2 W.length c2, .slice A3 F.length c3] 28)) := (Below.refl _ _).alloc (Nat.le_refl _) _
  have hv := h.below HB1 (Nat.le_refl _)
  have HM := Lib.hid (mktB_iff.1 hm)
  by_cases hl : C.length = (endL P).length
  · have e1 : ((C.length : Int) == ((endL P).length : Int)) = true := by simp [hl]
    have HL := Lib.hid hl
    clear hl
    cases ha : allB C (-99) 99
    all_goals
      rw [clmB_2 HL.out ha]
      go_enter Try.func125, Try.ntmps125
      go_wp2_with fail
      refine (ends_c _ _ _ _ _ _ _ hv.r1 HM.out.1.par HM.out.1.n1 HM.out.1.n2).mono ?_
      rintro e w2 ⟨Ae, ce, rfl, oe, hb2⟩
      have HB2 := bUp HB1 hb2 HB1.size
      have h7w := h7.below HB2 (Nat.le_refl _)
      clear oe hb2 hv
      go_wp2_with fail
      refine (allWithin_is _ _ _ _ _ _ ha _ h7w hl7).mono ?_
      rintro e w3 ⟨rfl, rfl⟩
      go_wp2
      go_ret
      exact ⟨rfl, HB2⟩
  · have e1 : ((C.length : Int) == ((endL P).length : Int)) = false := by simp; omega
    rw [clmB_1 hl]
    clear hl
    go_enter Try.func125, Try.ntmps125
    go_wp2_with fail
    refine (ends_c _ _ _ _ _ _ _ hv.r1 HM.out.1.par HM.out.1.n1 HM.out.1.n2).mono ?_
    rintro e w2 ⟨Ae, ce, rfl, oe, hb2⟩
    have HB2 := bUp HB1 hb2 HB1.size
    go_wp2
    go_ret
    exact ⟨rfl, HB2⟩
theorem areClaims_is (A1 : Option Addr) (P : List Int) (c1 : Nat) (A2 : Option Addr) (W : List Int) (c2 : Nat) (A3 : Option Addr) (F : List Int) (c3 : Nat) (A7 : Option Addr) (C : List Int) (c7 : Nat) (q : Bool) (hq : clmB P C = q) (w : World) (h : RdM w A1 P A2 W A3 F) (h7 : Rd w A7 (ints C)) (hl7 : C.length ≤ 16777216) (hm : mktB P W F = true) :
    Calls Try.prog 125 #[mkV A1 P.length c1 A2 W.length c2 A3 F.length c3, .slice A7 C.length c7] w (Quietly w (.bool q)) := by
  rw [← hq]
  exact areClaims_c A1 P c1 A2 W c2 A3 F c3 A7 C c7 w h h7 hl7 hm

def clsB (P W F C : List Int) : Bool := mktB P W F && clmB P C
theorem clsB_1 {P W F C : List Int} (h : allB C (-99) 99 = false) : clsB P W F C = false := by simp [clsB, clmB_3 h]
theorem clsB_2 {P W F C : List Int} (h : mktB P W F = false) : clsB P W F C = false := by simp [clsB, h]
theorem clsB_3 {P W F C : List Int} {q : Bool} (h : mktB P W F = true) (h2 : clmB P C = q) : clsB P W F C = q := by simp [clsB, h, h2]
theorem l6Claims_c (A1 : Option Addr) (P : List Int) (c1 : Nat) (A2 : Option Addr) (W : List Int) (c2 : Nat) (A3 : Option Addr) (F : List Int) (c3 : Nat) (A7 : Option Addr) (C : List Int) (c7 : Nat) (w : World) (h : RdM w A1 P A2 W A3 F) (h7 : Rd w A7 (ints C)) (hl7 : C.length ≤ 16777216) :
    Calls Try.prog 72 #[mkV A1 P.length c1 A2 W.length c2 A3 F.length c3, .slice A7 C.length c7] w (Quietly w (.bool (clsB P W F C))) := by
  have HB1 : Below w.heap.size w (w.alloc (.cells #[.slice A1 P.length c1, .slice A2 W.length c2, .slice A3 F.length c3] 28)) := (Below.refl _ _).alloc (Nat.le_refl _) _
  have bx := Bx3.new w (.slice A1 P.length c1) (.slice A2 W.length c2) (.slice A3 F.length c3) 28
  have hv := h.below HB1 (Nat.le_refl _)
  have h7v := h7.below HB1 (Nat.le_refl _)
  go_enter Try.func72, Try.ntmps72
  go_upto_region 1 with fail
  generalize w.alloc (.cells #[.slice A1 P.length c1, .slice A2 W.length c2, .slice A3 F.length c3] 28) = v at *
  go_wp2
  go_loop [5] (fun i => ∃ k : Nat, k ≤ C.length ∧ i = .int .i64 k ∧ allB (C.take k) (-99) 99 = true) (fun i => C.length - (intOf i).toNat)
  case atStart => exact ⟨0, by omega, rfl, rfl⟩
  case round =>
    obtain ⟨k, hk, rfl, hall⟩ := hrel
    have HA := Lib.hid hall
    clear hall
    by_cases hlt : k < C.length
    · obtain ⟨a, rfl, hca⟩ := h7v.intN hlt
      cases hx : inB (nth C k) (-99) 99
      · have HN := Lib.hid (clsB_1 (P := P) (W := W) (F := F) (allB_no hlt hx))
        go_wp2_with fail
        refine (l1In_is _ _ _ _ hx _).mono ?_
        rintro e w' ⟨rfl, rfl⟩
        go_wp2
        go_ret
        exact ⟨by rw [HN.out] <;> rfl, HB1⟩
      · have HN := Lib.hid (allB_succ hlt HA.out hx)
        go_wp2_with fail
        refine (l1In_is _ _ _ _ hx _).mono ?_
        rintro e w' ⟨rfl, rfl⟩
        go_wp2
        go_round
        case rel => exact ⟨k + 1, by omega, by go_num, HN.out⟩
        case measure => simp [intOf] <;> omega
    · have HE := Lib.hid (allB_end hlt HA.out)
      obtain ⟨f0, f1, f2, fz⟩ := id bx
      cases hm : mktB P W F
      · have HN := Lib.hid (clsB_2 (C := C) hm)
        go_wp2_with fail
        refine (l6Market_is _ _ _ _ _ _ _ _ _ _ hm _ hv).mono ?_
        rintro e w2 ⟨rfl, hb2⟩
        go_wp2
        go_ret
        exact ⟨by rw [HN.out] <;> rfl, bUp HB1 hb2 HB1.size⟩
      · have HM := Lib.hid (mktB_iff.1 hm)
        go_wp2_with fail
        refine (l6Market_is _ _ _ _ _ _ _ _ _ _ hm _ hv).mono ?_
        rintro e w2 ⟨rfl, hb2⟩
        have HB2 := bUp HB1 hb2 HB1.size
        clear f0 f1 f2 fz
        obtain ⟨f0, f1, f2, fz⟩ := bx.below hb2
        have HMK := Lib.hid hm
        clear hm hb2
        go_wp2_with fail
        refine (l2Ends_c _ _ _ _ _ _ _ (h.below HB2 (Nat.le_refl _)).r1 HM.out.1.par HM.out.1.n2).mono ?_
        rintro e w3 ⟨Ae, ce, rfl, oe, hb3⟩
        have HB3 := bUp HB2 hb3 HB2.size
        by_cases hl : C.length = (endL P).length
        · have e1 : ((C.length : Int) == ((endL P).length : Int)) = true := by simp [hl]
          have HN := Lib.hid (clsB_3 HMK.out (clmB_2 hl HE.out))
          clear hl
          go_wp2
          go_ret
          exact ⟨by rw [HN.out] <;> rfl, HB3⟩
        · have e1 : ((C.length : Int) == ((endL P).length : Int)) = false := by simp; omega
          have HN := Lib.hid (clsB_3 HMK.out (clmB_1 hl))
          clear hl
          go_wp2
          go_ret
          exact ⟨by rw [HN.out] <;> rfl, HB3⟩
theorem l6Claims_is (A1 : Option Addr) (P : List Int) (c1 : Nat) (A2 : Option Addr) (W : List Int) (c2 : Nat) (A3 : Option Addr) (F : List Int) (c3 : Nat) (A7 : Option Addr) (C : List Int) (c7 : Nat) (q : Bool) (hq : clsB P W F C = q) (w : World) (h : RdM w A1 P A2 W A3 F) (h7 : Rd w A7 (ints C)) (hl7 : C.length ≤ 16777216) :
    Calls Try.prog 72 #[mkV A1 P.length c1 A2 W.length c2 A3 F.length c3, .slice A7 C.length c7] w (Quietly w (.bool q)) := by
  rw [← hq]
  exact l6Claims_c A1 P c1 A2 W c2 A3 F c3 A7 C c7 w h h7 hl7
/-- What a test says of all ends' wealths and claims. -/
def allP (pr : Int → Int → Bool) (P F H C : List Int) (s : Int) : Bool := (List.range (endL P).length).all fun i => pr (wlE P F H s i) (nth C i)
def dcB (P W F H C : List Int) (s : Int) : Bool := hlB P W F H s && clmB P C
def dcV (pr : Int → Int → Bool) (P W F H C : List Int) (s : Int) : Bool := dcB P W F H C s && allP pr P F H C s
def prC (w c : Int) : Bool := decide (c ≤ w)
def prM (w c : Int) : Bool := decide (w = c)
theorem dcB_1 {P W F H C : List Int} {s : Int} (h : hlB P W F H s = false) : dcB P W F H C s = false := by simp [dcB, h]
theorem dcB_2 {P W F H C : List Int} {s : Int} {q : Bool} (h : hlB P W F H s = true) (h2 : clmB P C = q) : dcB P W F H C s = q := by simp [dcB, h, h2]
theorem dcV_no {pr : Int → Int → Bool} {P W F H C : List Int} {s : Int} (h : dcB P W F H C s = false) : dcV pr P W F H C s = false := by simp [dcV, h]
theorem dcV_at {pr : Int → Int → Bool} {P W F H C : List Int} {s : Int} {k : Nat} (hk : k < (endL P).length) (h : pr (wlE P F H s k) (nth C k) = false) : dcV pr P W F H C s = false := by
  rw [dcV, allP, all_no (f := fun i => pr (wlE P F H s i) (nth C i)) hk h, Bool.and_false]
theorem dcV_all {pr : Int → Int → Bool} {P W F H C : List Int} {s : Int} (h1 : dcB P W F H C s = true) (h : ∀ k, k < (endL P).length → pr (wlE P F H s k) (nth C k) = true) : dcV pr P W F H C s = true := by
  rw [dcV, h1, Bool.true_and]
  exact all_yes h
theorem mk_of_hl {P W F H : List Int} {s : Int} (h : hlB P W F H s = true) : mktB P W F = true := by
  simp only [hlB, Bool.and_eq_true] at h
  exact h.1.1

theorem whV_nth {P W F H : List Int} {s : Int} {j k : Nat} (h : hlB P W F H s = true) (hj : nth (endL P) k = (j : Int)) : nth (whV P W F H s) j = wlE P F H s k := by
  rw [whV_yes h, wlE, hj, Int.toNat_natCast]
theorem DoCoverClaims_fn (a b : Int) (w : World) : Calls Try.prog 115 #[.int .i64 a, .int .i64 b] w fun e w' => e = .returned (.bool (prC a b)) ∧ w = w' := by
  by_cases h : b ≤ a
  · have e1 : prC a b = true := by simp [prC]; omega
    rw [e1]
    go_enter Try.func115, Try.ntmps115
    go_wp2
    go_ret
    exact ⟨by rfl, rfl⟩
  · have e1 : prC a b = false := by simp [prC]; omega
    rw [e1]
    go_enter Try.func115, Try.ntmps115
    go_wp2
    go_ret
    exact ⟨by rfl, rfl⟩
theorem DoMatchClaims_fn (a b : Int) (w : World) : Calls Try.prog 117 #[.int .i64 a, .int .i64 b] w fun e w' => e = .returned (.bool (prM a b)) ∧ w = w' := by
  by_cases h : a = b
  · have e1 : prM a b = true := by simp [prM]; omega
    have e2 : (a == b) = true := by simp [h]
    rw [e1]
    go_enter Try.func117, Try.ntmps117
    go_wp2
    go_ret
    exact ⟨by rfl, rfl⟩
  · have e1 : prM a b = false := by simp [prM]; omega
    have e2 : (a == b) = false := by simp [h]
    rw [e1]
    go_enter Try.func117, Try.ntmps117
    go_wp2
    go_ret
    exact ⟨by rfl, rfl⟩
set_option maxRecDepth 20000 in
set_option maxHeartbeats 1000000 in
theorem specDoCoverClaims_c (A1 : Option Addr) (P : List Int) (c1 : Nat) (A2 : Option Addr) (W : List Int) (c2 : Nat) (A3 : Option Addr) (F : List Int) (c3 : Nat) (s : Int) (A4 : Option Addr) (H : List Int) (c4 : Nat) (A7 : Option Addr) (C : List Int) (c7 : Nat) (w : World) (h : RdM w A1 P A2 W A3 F) (h4 : Rd w A4 (ints H)) (h7 : Rd w A7 (ints C)) (hl4 : H.length ≤ 16777216) (hl7 : C.length ≤ 16777216) :
    Calls Try.prog 52 #[mkV A1 P.length c1 A2 W.length c2 A3 F.length c3, .int .i64 s, .slice A4 H.length c4, .slice A7 C.length c7] w (Quietly w (.tuple #[.bool (dcV prC P W F H C s), .bool (dcB P W F H C s)])) := by
  have HB1 : Below w.heap.size w (w.alloc (.cells #[.slice A1 P.length c1, .slice A2 W.length c2, .slice A3 F.length c3] 28)) := (Below.refl _ _).alloc (Nat.le_refl _) _
  have bx := Bx3.new w (.slice A1 P.length c1) (.slice A2 W.length c2) (.slice A3 F.length c3) 28
  have hv := h.below HB1 (Nat.le_refl _)
  have h4v := h4.below HB1 (Nat.le_refl _)
  have h7v := h7.below HB1 (Nat.le_refl _)
  cases hq : hlB P W F H s
  · have HD := Lib.hid (dcB_1 (C := C) hq)
    rw [dcV_no HD.out, HD.out]
    go_enter Try.func52, Try.ntmps52
    go_wp2_with fail
    refine (l6Holds_is _ _ _ _ _ _ _ _ _ _ _ _ _ _ hq _ hv h4v hl4).mono ?_
    rintro e w2 ⟨rfl, hb2⟩
    go_wp2
    go_ret2
    exact ⟨rfl, bUp HB1 hb2 HB1.size⟩
  · have HQ := Lib.hid hq
    cases hc : clmB P C
    · have HD := Lib.hid (dcB_2 hq hc)
      rw [dcV_no HD.out, HD.out]
      go_enter Try.func52, Try.ntmps52
      go_wp2_with fail
      refine (l6Holds_is _ _ _ _ _ _ _ _ _ _ _ _ _ _ hq _ hv h4v hl4).mono ?_
      rintro e w2 ⟨rfl, hb2⟩
      have HB2 := bUp HB1 hb2 HB1.size
      obtain ⟨f0, f1, f2, fz⟩ := bx.below hb2
      go_wp2_with fail
      refine (l6Claims_is _ _ _ _ _ _ _ _ _ _ _ _ _ (clsB_3 (mk_of_hl HQ.out) hc) _ (h.below HB2 (Nat.le_refl _)) (h7.below HB2 (Nat.le_refl _)) hl7).mono ?_
      rintro e w3 ⟨rfl, hb3⟩
      go_wp2
      go_ret2
      exact ⟨rfl, bUp HB2 hb3 HB2.size⟩
    · have HD := Lib.hid (dcB_2 hq hc)
      have HC := Lib.hid hc
      have hle := enTo_len P P.length
      change (endL P).length ≤ _ at hle
      have hn2 := (hlB_yes hq).1.n2
      rw [HD.out]
      go_enter Try.func52, Try.ntmps52
      go_wp2_with fail
      refine (l6Holds_is _ _ _ _ _ _ _ _ _ _ _ _ _ _ hq _ hv h4v hl4).mono ?_
      rintro e w2 ⟨rfl, hb2⟩
      have HB2 := bUp HB1 hb2 HB1.size
      have bx2 := bx.below hb2
      obtain ⟨f0, f1, f2, fz⟩ := id bx2
      go_wp2_with fail
      refine (l6Claims_is _ _ _ _ _ _ _ _ _ _ _ _ _ (clsB_3 (mk_of_hl HQ.out) hc) _ (h.below HB2 (Nat.le_refl _)) (h7.below HB2 (Nat.le_refl _)) hl7).mono ?_
      rintro e w3 ⟨rfl, hb3⟩
      have HB3 := bUp HB2 hb3 HB2.size
      clear f0 f1 f2 fz
      obtain ⟨f0, f1, f2, fz⟩ := bx2.below hb3
      clear hq hc bx bx2 hb2 hv h4v h7v
      go_wp2_with fail
      refine (l6Gaps_c _ _ _ _ _ _ _ _ _ _ _ _ _ _ _ _ _ (h.below HB3 (Nat.le_refl _)) (h4.below HB3 (Nat.le_refl _)) (h7.below HB3 (Nat.le_refl _)) HQ.out HC.out).mono ?_
      rintro e w4 ⟨Ag, cg, rfl, og, hb4⟩
      have HB4 := bUp HB3 hb4 HB3.size
      rw [gapTo_length]
      have hr := og.rd
      clear og hb3 hb4 f0 f1 f2 fz
      go_wp2
      go_loop [11] (fun i => ∃ k : Nat, k ≤ (endL P).length ∧ i = .int .i64 (k : Int) ∧ ∀ j, j < k → prC (wlE P F H s j) (nth C j) = true) (fun i => (endL P).length - (intOf i).toNat)
      case atStart => exact ⟨0, by omega, rfl, fun j hj => by omega⟩
      case round =>
        obtain ⟨k, hk, rfl, hall⟩ := hrel
        have HA := Lib.hid hall
        clear hall
        by_cases hlt : k < (endL P).length
        · obtain ⟨a, rfl, hca⟩ := hr.intN (k := k) (by rw [gapTo_length]; exact hlt)
          rw [gapTo_nth hlt] at hca
          cases hp : prC (wlE P F H s k) (nth C k)
          · have HN := Lib.hid (dcV_at (W := W) hlt hp)
            have hp2 : wlE P F H s k - nth C k < 0 := by simp [prC] at hp; omega
            clear hp
            go_wp2
            go_ret2
            exact ⟨by rw [HN.out] <;> rfl, HB4⟩
          · have HN : Hid (∀ j, j < k + 1 → prC (wlE P F H s j) (nth C j) = true) := Lib.hid fun j hj => by
              rcases Nat.lt_or_ge j k with h' | h'
              · exact HA.out j h'
              · rw [show j = k by omega]; exact hp
            have hp2 : ¬ wlE P F H s k - nth C k < 0 := by simp [prC] at hp; omega
            clear hp
            go_wp2
            go_round
            case rel => exact ⟨k + 1, by omega, by go_num, HN.out⟩
            case measure => simp [intOf] <;> omega
        · have HN := Lib.hid (dcV_all (pr := prC) HD.out fun k hk => HA.out k (by omega))
          go_wp2
          go_ret2
          exact ⟨by rw [HN.out] <;> rfl, HB4⟩
set_option maxRecDepth 20000 in
set_option maxHeartbeats 1000000 in
theorem specDoMatchClaims_c (A1 : Option Addr) (P : List Int) (c1 : Nat) (A2 : Option Addr) (W : List Int) (c2 : Nat) (A3 : Option Addr) (F : List Int) (c3 : Nat) (s : Int) (A4 : Option Addr) (H : List Int) (c4 : Nat) (A7 : Option Addr) (C : List Int) (c7 : Nat) (w : World) (h : RdM w A1 P A2 W A3 F) (h4 : Rd w A4 (ints H)) (h7 : Rd w A7 (ints C)) (hl4 : H.length ≤ 16777216) (hl7 : C.length ≤ 16777216) :
    Calls Try.prog 54 #[mkV A1 P.length c1 A2 W.length c2 A3 F.length c3, .int .i64 s, .slice A4 H.length c4, .slice A7 C.length c7] w (Quietly w (.tuple #[.bool (dcV prM P W F H C s), .bool (dcB P W F H C s)])) := by
  have HB1 : Below w.heap.size w (w.alloc (.cells #[.slice A1 P.length c1, .slice A2 W.length c2, .slice A3 F.length c3] 28)) := (Below.refl _ _).alloc (Nat.le_refl _) _
  have bx := Bx3.new w (.slice A1 P.length c1) (.slice A2 W.length c2) (.slice A3 F.length c3) 28
  have hv := h.below HB1 (Nat.le_refl _)
  have h4v := h4.below HB1 (Nat.le_refl _)
  have h7v := h7.below HB1 (Nat.le_refl _)
  cases hq : hlB P W F H s
  · have HD := Lib.hid (dcB_1 (C := C) hq)
    rw [dcV_no HD.out, HD.out]
    go_enter Try.func54, Try.ntmps54
    go_wp2_with fail
    refine (l6Holds_is _ _ _ _ _ _ _ _ _ _ _ _ _ _ hq _ hv h4v hl4).mono ?_
    rintro e w2 ⟨rfl, hb2⟩
    go_wp2
    go_ret2
    exact ⟨rfl, bUp HB1 hb2 HB1.size⟩
  · have HQ := Lib.hid hq
    cases hc : clmB P C
    · have HD := Lib.hid (dcB_2 hq hc)
      rw [dcV_no HD.out, HD.out]
      go_enter Try.func54, Try.ntmps54
      go_wp2_with fail
      refine (l6Holds_is _ _ _ _ _ _ _ _ _ _ _ _ _ _ hq _ hv h4v hl4).mono ?_
      rintro e w2 ⟨rfl, hb2⟩
      have HB2 := bUp HB1 hb2 HB1.size
      obtain ⟨f0, f1, f2, fz⟩ := bx.below hb2
      go_wp2_with fail
      refine (l6Claims_is _ _ _ _ _ _ _ _ _ _ _ _ _ (clsB_3 (mk_of_hl HQ.out) hc) _ (h.below HB2 (Nat.le_refl _)) (h7.below HB2 (Nat.le_refl _)) hl7).mono ?_
      rintro e w3 ⟨rfl, hb3⟩
      go_wp2
      go_ret2
      exact ⟨rfl, bUp HB2 hb3 HB2.size⟩
    · have HD := Lib.hid (dcB_2 hq hc)
      have HC := Lib.hid hc
      have hle := enTo_len P P.length
      change (endL P).length ≤ _ at hle
      have hn2 := (hlB_yes hq).1.n2
      rw [HD.out]
      go_enter Try.func54, Try.ntmps54
      go_wp2_with fail
      refine (l6Holds_is _ _ _ _ _ _ _ _ _ _ _ _ _ _ hq _ hv h4v hl4).mono ?_
      rintro e w2 ⟨rfl, hb2⟩
      have HB2 := bUp HB1 hb2 HB1.size
      have bx2 := bx.below hb2
      obtain ⟨f0, f1, f2, fz⟩ := id bx2
      go_wp2_with fail
      refine (l6Claims_is _ _ _ _ _ _ _ _ _ _ _ _ _ (clsB_3 (mk_of_hl HQ.out) hc) _ (h.below HB2 (Nat.le_refl _)) (h7.below HB2 (Nat.le_refl _)) hl7).mono ?_
      rintro e w3 ⟨rfl, hb3⟩
      have HB3 := bUp HB2 hb3 HB2.size
      clear f0 f1 f2 fz
      obtain ⟨f0, f1, f2, fz⟩ := bx2.below hb3
      clear hq hc bx bx2 hb2 hv h4v h7v
      go_wp2_with fail
      refine (l6Gaps_c _ _ _ _ _ _ _ _ _ _ _ _ _ _ _ _ _ (h.below HB3 (Nat.le_refl _)) (h4.below HB3 (Nat.le_refl _)) (h7.below HB3 (Nat.le_refl _)) HQ.out HC.out).mono ?_
      rintro e w4 ⟨Ag, cg, rfl, og, hb4⟩
      have HB4 := bUp HB3 hb4 HB3.size
      rw [gapTo_length]
      have hr := og.rd
      clear og hb3 hb4 f0 f1 f2 fz
      go_wp2
      go_loop [11] (fun i => ∃ k : Nat, k ≤ (endL P).length ∧ i = .int .i64 (k : Int) ∧ ∀ j, j < k → prM (wlE P F H s j) (nth C j) = true) (fun i => (endL P).length - (intOf i).toNat)
      case atStart => exact ⟨0, by omega, rfl, fun j hj => by omega⟩
      case round =>
        obtain ⟨k, hk, rfl, hall⟩ := hrel
        have HA := Lib.hid hall
        clear hall
        by_cases hlt : k < (endL P).length
        · obtain ⟨a, rfl, hca⟩ := hr.intN (k := k) (by rw [gapTo_length]; exact hlt)
          rw [gapTo_nth hlt] at hca
          cases hp : prM (wlE P F H s k) (nth C k)
          · have HN := Lib.hid (dcV_at (W := W) hlt hp)
            have hp2 : (wlE P F H s k - nth C k != 0) = true := by simp [prM] at hp ⊢; omega
            clear hp
            go_wp2
            go_ret2
            exact ⟨by rw [HN.out] <;> rfl, HB4⟩
          · have HN : Hid (∀ j, j < k + 1 → prM (wlE P F H s j) (nth C j) = true) := Lib.hid fun j hj => by
              rcases Nat.lt_or_ge j k with h' | h'
              · exact HA.out j h'
              · rw [show j = k by omega]; exact hp
            have hp2 : (wlE P F H s k - nth C k != 0) = false := by simp [prM] at hp ⊢; omega
            clear hp
            go_wp2
            go_round
            case rel => exact ⟨k + 1, by omega, by go_num, HN.out⟩
            case measure => simp [intOf] <;> omega
        · have HN := Lib.hid (dcV_all (pr := prM) HD.out fun k hk => HA.out k (by omega))
          go_wp2
          go_ret2
          exact ⟨by rw [HN.out] <;> rfl, HB4⟩
set_option maxRecDepth 20000 in
set_option maxHeartbeats 1000000 in
theorem claimedDoCoverClaims_c (A1 : Option Addr) (P : List Int) (c1 : Nat) (A2 : Option Addr) (W : List Int) (c2 : Nat) (A3 : Option Addr) (F : List Int) (c3 : Nat) (s : Int) (A4 : Option Addr) (H : List Int) (c4 : Nat) (A7 : Option Addr) (C : List Int) (c7 : Nat) (w : World) (h : RdM w A1 P A2 W A3 F) (h4 : Rd w A4 (ints H)) (h7 : Rd w A7 (ints C)) (hl4 : H.length ≤ 16777216) (hl7 : C.length ≤ 16777216) :
    Calls Try.prog 114 #[mkV A1 P.length c1 A2 W.length c2 A3 F.length c3, .int .i64 s, .slice A4 H.length c4, .slice A7 C.length c7, .func (Fn.func 115) #[] #[]] w (Quietly w (.tuple #[.bool (dcV prC P W F H C s), .bool (dcB P W F H C s)])) := by
  have HB1 : Below w.heap.size w (w.alloc (.cells #[.slice A1 P.length c1, .slice A2 W.length c2, .slice A3 F.length c3] 28)) := (Below.refl _ _).alloc (Nat.le_refl _) _
  have bx := Bx3.new w (.slice A1 P.length c1) (.slice A2 W.length c2) (.slice A3 F.length c3) 28
  have hv := h.below HB1 (Nat.le_refl _)
  have h4v := h4.below HB1 (Nat.le_refl _)
  have CW := implWh_c A1 P c1 A2 W c2 A3 F c3 s A4 H c4 _ hv h4v hl4
  cases hq : hlB P W F H s
  · have HD := Lib.hid (dcB_1 (C := C) hq)
    rw [dcV_no HD.out, HD.out]
    rw [hq] at CW
    go_enter Try.func114, Try.ntmps114
    go_wp2_with fail
    refine CW.mono ?_
    rintro e w2 ⟨Aw, cw, rfl, ow, hb2⟩
    go_wp2
    go_ret2
    exact ⟨rfl, bUp HB1 hb2 HB1.size⟩
  · have HQ := Lib.hid hq
    have hwl := whV_length P W F H s
    have HWE := Lib.hid (whV_yes hq)
    rw [hq] at CW
    cases hc : clmB P C
    · have HD := Lib.hid (dcB_2 hq hc)
      rw [dcV_no HD.out, HD.out]
      go_enter Try.func114, Try.ntmps114
      go_wp2_with fail
      refine CW.mono ?_
      rintro e w2 ⟨Aw, cw, rfl, ow, hb2⟩
      have HB2 := bUp HB1 hb2 HB1.size
      obtain ⟨f0, f1, f2, fz⟩ := bx.below hb2
      go_wp2_with fail
      refine (areClaims_is _ _ _ _ _ _ _ _ _ _ _ _ _ hc _ (h.below HB2 (Nat.le_refl _)) (h7.below HB2 (Nat.le_refl _)) hl7 (mk_of_hl HQ.out)).mono ?_
      rintro e w3 ⟨rfl, hb3⟩
      go_wp2
      go_ret2
      exact ⟨rfl, bUp HB2 hb3 HB2.size⟩
    · have HD := Lib.hid (dcB_2 hq hc)
      have HCL : Hid (C.length = (endL P).length) := Lib.hid (by simp only [clmB, Bool.and_eq_true, decide_eq_true_eq] at hc; exact hc.1)
      have hle := enTo_len P P.length
      change (endL P).length ≤ _ at hle
      have HK := Lib.hid (hlB_yes hq)
      have hn2 := HK.out.1.n2
      have HWL : Hid ((whV P W F H s).length = P.length) := Lib.hid (by rw [HWE.out, wl, wlL_length]; have := HK.out.1.n1; omega)
      rw [HD.out]
      go_enter Try.func114, Try.ntmps114
      go_wp2_with fail
      refine CW.mono ?_
      rintro e w2 ⟨Aw, cw, rfl, ow, hb2⟩
      have HB2 := bUp HB1 hb2 HB1.size
      have bx2 := bx.below hb2
      obtain ⟨f0, f1, f2, fz⟩ := id bx2
      go_wp2_with fail
      refine (areClaims_is _ _ _ _ _ _ _ _ _ _ _ _ _ hc _ (h.below HB2 (Nat.le_refl _)) (h7.below HB2 (Nat.le_refl _)) hl7 (mk_of_hl HQ.out)).mono ?_
      rintro e w3 ⟨rfl, hb3⟩
      have HB3 := bUp HB2 hb3 HB2.size
      have ow3 := ow.below hb3
      clear f0 f1 f2 fz
      obtain ⟨f0, f1, f2, fz⟩ := bx2.below hb3
      clear hq hc bx bx2 hb2 hb3 hv h4v CW ow
      go_wp2_with fail
      refine (ends_c _ _ _ _ _ _ _ (h.below HB3 (Nat.le_refl _)).r1 HK.out.1.par HK.out.1.n1 HK.out.1.n2).mono ?_
      rintro e w4 ⟨Ae, ce, rfl, oe, hb4⟩
      have HB4 := bUp HB3 hb4 HB3.size
      have ow4 := ow3.below hb4
      have hrw := ow4.rd
      have hre := oe.rd
      have h7w := h7.below HB4 (Nat.le_refl _)
      clear f0 f1 f2 fz ow3 ow4 oe hb4
      go_wp2
      go_loopw [35] (fun i wr => ∃ k : Nat, k ≤ (endL P).length ∧ i = .int .i64 (k : Int) ∧ Dr w4 wr ∧ ∀ j, j < k → prC (wlE P F H s j) (nth C j) = true) (fun i _ => (endL P).length - (intOf i).toNat)
      case atStart => exact ⟨0, by omega, rfl, Dr.refl _, fun j hj => by omega⟩
      case round =>
        obtain ⟨k, hk, rfl, hdr, hall⟩ := hrel
        have HA := Lib.hid hall
        clear hall
        by_cases hlt : k < (endL P).length
        · obtain ⟨a6, rfl, q6⟩ := (hre.dr hdr).intN hlt
          obtain ⟨j, hj, hje, hjn⟩ := endL_nth hlt
          have HV := Lib.hid (whV_nth (W := W) (F := F) (H := H) (s := s) HQ.out hjn)
          rw [hjn] at q6
          obtain ⟨a5, rfl, q5⟩ := (hrw.dr hdr).intN (k := j) (by rw [HWL.out]; exact hj)
          obtain ⟨a7, rfl, q7⟩ := (h7w.dr hdr).intN (k := k) (by rw [HCL.out]; exact hlt)
          rw [HV.out] at q5
          have i1 : (0 : Int) ≤ (k : Int) := by omega
          have i2 : (k : Int) < ((endL P).length : Int) := by omega
          have i3 : (0 : Int) ≤ (j : Int) := by omega
          have i4 : (j : Int) < ((whV P W F H s).length : Int) := by have := HWL.out; omega
          have i5 : (k : Int) < (C.length : Int) := by have := HCL.out; omega
          clear hjn
          go_wp2
          refine wp_region_still_tail 9 (by kernel_rfl) (by kernel_rfl) ?_
          simp only [List.take_succ_cons, List.take_zero, List.drop_succ_cons, List.drop_zero]
          repeat still_step
          refine wpStill_nil ?_
          change wpList _ _ _ _ _ wr.drew
          have h2 := hdr.below HB4
          cases hp : prC (wlE P F H s k) (nth C k)
          · have HN := Lib.hid (dcV_at (W := W) hlt hp)
            clear q5 q6 q7
            go_wp2_with fail
            refine (DoCoverClaims_fn _ _ _).mono ?_
            rintro e w5 ⟨rfl, rfl⟩
            rw [hp]
            clear hp
            go_wp2
            go_ret2
            exact ⟨by rw [HN.out] <;> rfl, h2.drew⟩
          · have HN : Hid (∀ j, j < k + 1 → prC (wlE P F H s j) (nth C j) = true) := Lib.hid fun j hj => by
              rcases Nat.lt_or_ge j k with h' | h'
              · exact HA.out j h'
              · rw [show j = k by omega]; exact hp
            have hd2 := hdr.drew
            clear q5 q6 q7
            go_wp2_with fail
            refine (DoCoverClaims_fn _ _ _).mono ?_
            rintro e w5 ⟨rfl, rfl⟩
            rw [hp]
            clear hp
            go_wp2
            go_roundw
            case rel => exact ⟨k + 1, by omega, by go_num, hd2, HN.out⟩
            case measure => simp [intOf] <;> omega
        · have HN := Lib.hid (dcV_all (pr := prC) HD.out fun k hk => HA.out k (by omega))
          go_wp2
          go_ret2
          exact ⟨by rw [HN.out] <;> rfl, hdr.below HB4⟩
theorem implDoCoverClaims_c (A1 : Option Addr) (P : List Int) (c1 : Nat) (A2 : Option Addr) (W : List Int) (c2 : Nat) (A3 : Option Addr) (F : List Int) (c3 : Nat) (s : Int) (A4 : Option Addr) (H : List Int) (c4 : Nat) (A7 : Option Addr) (C : List Int) (c7 : Nat) (w : World) (h : RdM w A1 P A2 W A3 F) (h4 : Rd w A4 (ints H)) (h7 : Rd w A7 (ints C)) (hl4 : H.length ≤ 16777216) (hl7 : C.length ≤ 16777216) :
    Calls Try.prog 51 #[mkV A1 P.length c1 A2 W.length c2 A3 F.length c3, .int .i64 s, .slice A4 H.length c4, .slice A7 C.length c7] w (Quietly w (.tuple #[.bool (dcV prC P W F H C s), .bool (dcB P W F H C s)])) := by
  have HB1 : Below w.heap.size w (w.alloc (.cells #[.slice A1 P.length c1, .slice A2 W.length c2, .slice A3 F.length c3] 28)) := (Below.refl _ _).alloc (Nat.le_refl _) _
  have hv := h.below HB1 (Nat.le_refl _)
  have h4v := h4.below HB1 (Nat.le_refl _)
  go_enter Try.func51, Try.ntmps51
  go_wp2_with fail
  refine (claimedDoCoverClaims_c _ _ _ _ _ _ _ _ _ _ _ _ _ _ _ _ _ hv h4v (h7.below HB1 (Nat.le_refl _)) hl4 hl7).mono ?_
  rintro e w2 ⟨rfl, hb2⟩
  go_wp2
  go_ret2
  exact ⟨rfl, bUp HB1 hb2 HB1.size⟩
set_option maxRecDepth 20000 in
set_option maxHeartbeats 1000000 in
theorem claimedDoMatchClaims_c (A1 : Option Addr) (P : List Int) (c1 : Nat) (A2 : Option Addr) (W : List Int) (c2 : Nat) (A3 : Option Addr) (F : List Int) (c3 : Nat) (s : Int) (A4 : Option Addr) (H : List Int) (c4 : Nat) (A7 : Option Addr) (C : List Int) (c7 : Nat) (w : World) (h : RdM w A1 P A2 W A3 F) (h4 : Rd w A4 (ints H)) (h7 : Rd w A7 (ints C)) (hl4 : H.length ≤ 16777216) (hl7 : C.length ≤ 16777216) :
    Calls Try.prog 114 #[mkV A1 P.length c1 A2 W.length c2 A3 F.length c3, .int .i64 s, .slice A4 H.length c4, .slice A7 C.length c7, .func (Fn.func 117) #[] #[]] w (Quietly w (.tuple #[.bool (dcV prM P W F H C s), .bool (dcB P W F H C s)])) := by
  have HB1 : Below w.heap.size w (w.alloc (.cells #[.slice A1 P.length c1, .slice A2 W.length c2, .slice A3 F.length c3] 28)) := (Below.refl _ _).alloc (Nat.le_refl _) _
  have bx := Bx3.new w (.slice A1 P.length c1) (.slice A2 W.length c2) (.slice A3 F.length c3) 28
  have hv := h.below HB1 (Nat.le_refl _)
  have h4v := h4.below HB1 (Nat.le_refl _)
  have CW := implWh_c A1 P c1 A2 W c2 A3 F c3 s A4 H c4 _ hv h4v hl4
  cases hq : hlB P W F H s
  · have HD := Lib.hid (dcB_1 (C := C) hq)
    rw [dcV_no HD.out, HD.out]
    rw [hq] at CW
    go_enter Try.func114, Try.ntmps114
    go_wp2_with fail
    refine CW.mono ?_
    rintro e w2 ⟨Aw, cw, rfl, ow, hb2⟩
    go_wp2
    go_ret2
    exact ⟨rfl, bUp HB1 hb2 HB1.size⟩
  · have HQ := Lib.hid hq
    have hwl := whV_length P W F H s
    have HWE := Lib.hid (whV_yes hq)
    rw [hq] at CW
    cases hc : clmB P C
    · have HD := Lib.hid (dcB_2 hq hc)
      rw [dcV_no HD.out, HD.out]
      go_enter Try.func114, Try.ntmps114
      go_wp2_with fail
      refine CW.mono ?_
      rintro e w2 ⟨Aw, cw, rfl, ow, hb2⟩
      have HB2 := bUp HB1 hb2 HB1.size
      obtain ⟨f0, f1, f2, fz⟩ := bx.below hb2
      go_wp2_with fail
      refine (areClaims_is _ _ _ _ _ _ _ _ _ _ _ _ _ hc _ (h.below HB2 (Nat.le_refl _)) (h7.below HB2 (Nat.le_refl _)) hl7 (mk_of_hl HQ.out)).mono ?_
      rintro e w3 ⟨rfl, hb3⟩
      go_wp2
      go_ret2
      exact ⟨rfl, bUp HB2 hb3 HB2.size⟩
    · have HD := Lib.hid (dcB_2 hq hc)
      have HCL : Hid (C.length = (endL P).length) := Lib.hid (by simp only [clmB, Bool.and_eq_true, decide_eq_true_eq] at hc; exact hc.1)
      have hle := enTo_len P P.length
      change (endL P).length ≤ _ at hle
      have HK := Lib.hid (hlB_yes hq)
      have hn2 := HK.out.1.n2
      have HWL : Hid ((whV P W F H s).length = P.length) := Lib.hid (by rw [HWE.out, wl, wlL_length]; have := HK.out.1.n1; omega)
      rw [HD.out]
      go_enter Try.func114, Try.ntmps114
      go_wp2_with fail
      refine CW.mono ?_
      rintro e w2 ⟨Aw, cw, rfl, ow, hb2⟩
      have HB2 := bUp HB1 hb2 HB1.size
      have bx2 := bx.below hb2
      obtain ⟨f0, f1, f2, fz⟩ := id bx2
      go_wp2_with fail
      refine (areClaims_is _ _ _ _ _ _ _ _ _ _ _ _ _ hc _ (h.below HB2 (Nat.le_refl _)) (h7.below HB2 (Nat.le_refl _)) hl7 (mk_of_hl HQ.out)).mono ?_
      rintro e w3 ⟨rfl, hb3⟩
      have HB3 := bUp HB2 hb3 HB2.size
      have ow3 := ow.below hb3
      clear f0 f1 f2 fz
      obtain ⟨f0, f1, f2, fz⟩ := bx2.below hb3
      clear hq hc bx bx2 hb2 hb3 hv h4v CW ow
      go_wp2_with fail
      refine (ends_c _ _ _ _ _ _ _ (h.below HB3 (Nat.le_refl _)).r1 HK.out.1.par HK.out.1.n1 HK.out.1.n2).mono ?_
      rintro e w4 ⟨Ae, ce, rfl, oe, hb4⟩
      have HB4 := bUp HB3 hb4 HB3.size
      have ow4 := ow3.below hb4
      have hrw := ow4.rd
      have hre := oe.rd
      have h7w := h7.below HB4 (Nat.le_refl _)
      clear f0 f1 f2 fz ow3 ow4 oe hb4
      go_wp2
      go_loopw [35] (fun i wr => ∃ k : Nat, k ≤ (endL P).length ∧ i = .int .i64 (k : Int) ∧ Dr w4 wr ∧ ∀ j, j < k → prM (wlE P F H s j) (nth C j) = true) (fun i _ => (endL P).length - (intOf i).toNat)
      case atStart => exact ⟨0, by omega, rfl, Dr.refl _, fun j hj => by omega⟩
      case round =>
        obtain ⟨k, hk, rfl, hdr, hall⟩ := hrel
        have HA := Lib.hid hall
        clear hall
        by_cases hlt : k < (endL P).length
        · obtain ⟨a6, rfl, q6⟩ := (hre.dr hdr).intN hlt
          obtain ⟨j, hj, hje, hjn⟩ := endL_nth hlt
          have HV := Lib.hid (whV_nth (W := W) (F := F) (H := H) (s := s) HQ.out hjn)
          rw [hjn] at q6
          obtain ⟨a5, rfl, q5⟩ := (hrw.dr hdr).intN (k := j) (by rw [HWL.out]; exact hj)
          obtain ⟨a7, rfl, q7⟩ := (h7w.dr hdr).intN (k := k) (by rw [HCL.out]; exact hlt)
          rw [HV.out] at q5
          have i1 : (0 : Int) ≤ (k : Int) := by omega
          have i2 : (k : Int) < ((endL P).length : Int) := by omega
          have i3 : (0 : Int) ≤ (j : Int) := by omega
          have i4 : (j : Int) < ((whV P W F H s).length : Int) := by have := HWL.out; omega
          have i5 : (k : Int) < (C.length : Int) := by have := HCL.out; omega
          clear hjn
          go_wp2
          refine wp_region_still_tail 9 (by kernel_rfl) (by kernel_rfl) ?_
          simp only [List.take_succ_cons, List.take_zero, List.drop_succ_cons, List.drop_zero]
          repeat still_step
          refine wpStill_nil ?_
          change wpList _ _ _ _ _ wr.drew
          have h2 := hdr.below HB4
          cases hp : prM (wlE P F H s k) (nth C k)
          · have HN := Lib.hid (dcV_at (W := W) hlt hp)
            clear q5 q6 q7
            go_wp2_with fail
            refine (DoMatchClaims_fn _ _ _).mono ?_
            rintro e w5 ⟨rfl, rfl⟩
            rw [hp]
            clear hp
            go_wp2
            go_ret2
            exact ⟨by rw [HN.out] <;> rfl, h2.drew⟩
          · have HN : Hid (∀ j, j < k + 1 → prM (wlE P F H s j) (nth C j) = true) := Lib.hid fun j hj => by
              rcases Nat.lt_or_ge j k with h' | h'
              · exact HA.out j h'
              · rw [show j = k by omega]; exact hp
            have hd2 := hdr.drew
            clear q5 q6 q7
            go_wp2_with fail
            refine (DoMatchClaims_fn _ _ _).mono ?_
            rintro e w5 ⟨rfl, rfl⟩
            rw [hp]
            clear hp
            go_wp2
            go_roundw
            case rel => exact ⟨k + 1, by omega, by go_num, hd2, HN.out⟩
            case measure => simp [intOf] <;> omega
        · have HN := Lib.hid (dcV_all (pr := prM) HD.out fun k hk => HA.out k (by omega))
          go_wp2
          go_ret2
          exact ⟨by rw [HN.out] <;> rfl, hdr.below HB4⟩
theorem implDoMatchClaims_c (A1 : Option Addr) (P : List Int) (c1 : Nat) (A2 : Option Addr) (W : List Int) (c2 : Nat) (A3 : Option Addr) (F : List Int) (c3 : Nat) (s : Int) (A4 : Option Addr) (H : List Int) (c4 : Nat) (A7 : Option Addr) (C : List Int) (c7 : Nat) (w : World) (h : RdM w A1 P A2 W A3 F) (h4 : Rd w A4 (ints H)) (h7 : Rd w A7 (ints C)) (hl4 : H.length ≤ 16777216) (hl7 : C.length ≤ 16777216) :
    Calls Try.prog 53 #[mkV A1 P.length c1 A2 W.length c2 A3 F.length c3, .int .i64 s, .slice A4 H.length c4, .slice A7 C.length c7] w (Quietly w (.tuple #[.bool (dcV prM P W F H C s), .bool (dcB P W F H C s)])) := by
  have HB1 : Below w.heap.size w (w.alloc (.cells #[.slice A1 P.length c1, .slice A2 W.length c2, .slice A3 F.length c3] 28)) := (Below.refl _ _).alloc (Nat.le_refl _) _
  have hv := h.below HB1 (Nat.le_refl _)
  have h4v := h4.below HB1 (Nat.le_refl _)
  go_enter Try.func53, Try.ntmps53
  go_wp2_with fail
  refine (claimedDoMatchClaims_c _ _ _ _ _ _ _ _ _ _ _ _ _ _ _ _ _ hv h4v (h7.below HB1 (Nat.le_refl _)) hl4 hl7).mono ?_
  rintro e w2 ⟨rfl, hb2⟩
  go_wp2
  go_ret2
  exact ⟨rfl, bUp HB1 hb2 HB1.size⟩

end Go.Proofs.Ytnhclpajfejnoaa
