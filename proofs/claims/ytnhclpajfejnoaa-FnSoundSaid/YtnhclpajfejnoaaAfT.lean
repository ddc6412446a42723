/- AreFairWeights: the reference's own walk. (Written by gen_aft.py.) -/
import Derived.Test.YtnhclpajfejnoaaAfS
namespace Go.Proofs.Ytnhclpajfejnoaa
open Go.RowKit

theorem bx_set2 {W : World} {g : Nat} {x y : Value} (h : Bx W g x y) (x' y' : Value) : Bx ((W.setCell ⟨g, 0, none⟩ x').setCell ⟨g, 1, none⟩ y') g x' y' := by
  obtain ⟨h0, h1, h2, h3, h4⟩ := h
  refine ⟨by simp [go_sem, h0], by simp [go_sem, h1], by simp [go_sem, h2], by simp [go_sem, h3], by simpa [World.size_setCell] using h4⟩
theorem blk_new {w : World} {B c g : Nat} {A : Option Addr} {xs : List Int} (h : Own w B A c xs) (hg : w.heap.size ≤ g) : blk A ≠ some g := fun e => by
  have := h.ltk g e
  omega
theorem or_ne {A : Option Addr} {g : Nat} (h : blk A ≠ some g) : A = none ∨ blk A ≠ some g := .inr h
theorem fw_fin {w w3 u : World} {g c4 ce : Nat} {A4 Ae : Option Addr} {xs es : List Int} {x0 y0 m1 m2 m3 : Value} (x y : Value) (HB3 : Below w.heap.size w w3) (hz : w.heap.size < w3.heap.size) (HU : Below w3.heap.size w3 u) (hg : w3.heap.size ≤ g) (bg : Bx u g x0 y0)
    (o4 : Own u w3.heap.size A4 c4 xs) (oe : Own u w3.heap.size Ae ce es) (n4 : blk A4 ≠ some g) (ne : blk Ae ≠ some g) (b3 : Bx3 w3 w.heap.size m1 m2 m3) :
    Below w3.heap.size w3 ((u.setCell ⟨g, 0, none⟩ x).setCell ⟨g, 1, none⟩ y) ∧ Bx ((u.setCell ⟨g, 0, none⟩ x).setCell ⟨g, 1, none⟩ y) g x y ∧ w.heap.size < g ∧ Own ((u.setCell ⟨g, 0, none⟩ x).setCell ⟨g, 1, none⟩ y) (w.heap.size + 1) A4 c4 xs ∧
    Own ((u.setCell ⟨g, 0, none⟩ x).setCell ⟨g, 1, none⟩ y) (w.heap.size + 1) Ae ce es ∧ Bx3 ((u.setCell ⟨g, 0, none⟩ x).setCell ⟨g, 1, none⟩ y) w.heap.size m1 m2 m3 ∧ Below w.heap.size w ((u.setCell ⟨g, 0, none⟩ x).setCell ⟨g, 1, none⟩ y) := by
  have HS : Below w3.heap.size w3 ((u.setCell ⟨g, 0, none⟩ x).setCell ⟨g, 1, none⟩ y) := (HU.setCell hg _).setCell hg _
  exact ⟨HS, bx_set2 bg _ _, by omega, ((o4.setOther _ _ (or_ne n4)).setOther _ _ (or_ne n4)).mono (by omega), ((oe.setOther _ _ (or_ne ne)).setOther _ _ (or_ne ne)).mono (by omega), b3.below HS, bUp HB3 HS HB3.size⟩

set_option maxRecDepth 20000 in
set_option maxHeartbeats 1500000 in
theorem specFw_c (A1 : Option Addr) (P : List Int) (c1 : Nat) (A2 : Option Addr) (W : List Int) (c2 : Nat) (A3 : Option Addr) (F : List Int) (c3 : Nat) (A7 : Option Addr) (X : List Int) (c7 : Nat) (w : World) (h : RdM w A1 P A2 W A3 F) (h7 : Rd w A7 (ints X)) (_hl7 : X.length ≤ 16777216) :
    Calls Try.prog 32 #[mkV A1 P.length c1 A2 W.length c2 A3 F.length c3, .slice A7 X.length c7] w (Quietly w (.tuple #[.bool (fwV P W F X), .bool (fwB P W F X)])) := by
  have HB1 : Below w.heap.size w (w.alloc (.cells #[.slice A1 P.length c1, .slice A2 W.length c2, .slice A3 F.length c3] 28)) := (Below.refl _ _).alloc (Nat.le_refl _) _
  have bx := Bx3.new w (.slice A1 P.length c1) (.slice A2 W.length c2) (.slice A3 F.length c3) 28
  have hv := h.below HB1 (Nat.le_refl _)
  cases hm : mktB P W F
  · have HQ := Lib.hid (fwB_1 (X := X) hm)
    rw [fwV_no HQ.out, HQ.out]
    go_enter Try.func32, Try.ntmps32
    go_wp2_with fail
    refine (l6Market_is _ _ _ _ _ _ _ _ _ _ hm _ hv).mono ?_
    rintro e w2 ⟨rfl, hb2⟩
    go_wp2
    go_ret2
    exact ⟨rfl, bUp HB1 hb2 HB1.size⟩
  · have HM := Lib.hid (mktB_iff.1 hm)
    have hn1 := HM.out.1.n1
    have hn2 := HM.out.1.n2
    have hle := enTo_len P P.length
    change (endL P).length ≤ _ at hle
    by_cases hl : X.length = (endL P).length
    · have e1 : ((X.length : Int) != ((endL P).length : Int)) = false := by simp [hl]
      have HX := Lib.hid hl
      clear hl
      go_enter Try.func32, Try.ntmps32
      go_wp2_with fail
      refine (l6Market_is _ _ _ _ _ _ _ _ _ _ hm _ hv).mono ?_
      rintro e w2 ⟨rfl, hb2⟩
      have HB2 := bUp HB1 hb2 HB1.size
      have bx2 := bx.below hb2
      obtain ⟨f0, f1, f2, f3⟩ := id bx2
      go_wp2_with fail
      refine (l2Ends_c _ _ _ _ _ _ _ (h.below HB2 (Nat.le_refl _)).r1 HM.out.1.par HM.out.1.n2).mono ?_
      rintro e w3 ⟨Ae, ce, rfl, oe, hb3⟩
      have HB3 := bUp HB2 hb3 HB2.size
      have bx3 := bx2.below hb3
      clear bx bx2 hb2 hb3 oe HB1 HB2 hv f0 f1 f2 f3
      go_upto_region 3 with fail
      go_cut [6, 7] (fun s6 s7 wx => ∃ (g : Nat) (A4 Ae : Option Addr) (c4 ce : Nat), s6 = .pointer (some ⟨g, 0, none⟩) ∧ s7 = .slice Ae (endL P).length ce ∧ Bx wx g (.slice A1 P.length c1) (.slice A4 W.length c4) ∧ w.heap.size < g ∧
        Own wx (w.heap.size + 1) A4 c4 W ∧ Own wx (w.heap.size + 1) Ae ce (endL P) ∧ Bx3 wx w.heap.size (.slice A1 P.length c1) (.slice A2 W.length c2) (.slice A3 F.length c3) ∧ Below w.heap.size w wx ∧ blk A4 ≠ some g ∧ blk Ae ≠ some g ∧ (Ae = none ∨ blk Ae ≠ blk A4))
      case first =>
        obtain ⟨f0, f1, f2, fz⟩ := id bx3
        have h3 := h.below HB3 (Nat.le_refl _)
        have SK : Hid (∀ w', Below w3.heap.size w3 w' → w'.cell? ⟨w.heap.size, 0, none⟩ = some (.slice A1 P.length c1) ∧ w'.cell? ⟨w.heap.size, 1, none⟩ = some (.slice A2 W.length c2) ∧ w'.cell? ⟨w.heap.size, 2, none⟩ = some (.slice A3 F.length c3)) :=
          Lib.hid fun w' HV => ⟨(HV.cell (p := ⟨w.heap.size, 0, none⟩) fz).trans f0, (HV.cell (p := ⟨w.heap.size, 1, none⟩) fz).trans f1, (HV.cell (p := ⟨w.heap.size, 2, none⟩) fz).trans f2⟩
        clear f0 f1 f2
        have hd : Below w3.heap.size w3 w3.drew := Below.drew (Below.refl _ _)
        have hS0 := SK.out w3.drew hd
        have hW24 : W.length ≤ 16777216 := by have := HM.out.1.len; omega
        refine tamed_region (S := fun w' => w'.cell? ⟨w.heap.size, 0, none⟩ = some (.slice A1 P.length c1) ∧ w'.cell? ⟨w.heap.size, 1, none⟩ = some (.slice A2 W.length c2) ∧ w'.cell? ⟨w.heap.size, 2, none⟩ = some (.slice A3 F.length c3)) (fun _ => false) (by kernel_rfl) ?_
        refine tame0 (k := 0) ?_ rfl (by kernel_rfl) (by kernel_rfl) (by kernel_rfl) (fun _ _ _ h => h) (by rfl) (fun v => ?_) ?_
        rotate_left
        · (go_simp; all_goals rfl)
        simp only [Act.put, List.setIfInBounds_toArray]
        refine tame0 (k := 1) ?_ rfl (by kernel_rfl) (by kernel_rfl) (by kernel_rfl) (fun _ _ _ h => h) (by rfl) (fun v => ?_) ?_
        rotate_left
        · (go_simp; all_goals rfl)
        simp only [Act.put]
        refine tame (k := 2) ?_ rfl (by kernel_rfl) (by kernel_rfl) (by kernel_rfl) (by kernel_rfl) (fun _ _ _ h => h) (by rfl) hS0 (fun v hv => ?_) ?_
        rotate_left
        · (obtain ⟨k1, k2, k3⟩ := hv; go_simp; all_goals rfl)
        simp only [Act.put]
        refine tame0 (k := 3) ?_ rfl (by kernel_rfl) (by kernel_rfl) (by kernel_rfl) (fun _ _ _ h => h) (by rfl) (fun v => ?_) ?_
        rotate_left
        · (go_simp; all_goals rfl)
        simp only [Act.put]
        refine tame0 (k := 4) ?_ rfl (by kernel_rfl) (by kernel_rfl) (by kernel_rfl) (fun _ _ _ h => h) (by rfl) (fun v => ?_) ?_
        rotate_left
        · (go_simp; all_goals rfl)
        simp only [Act.put]
        refine tame (k := 5) ?_ rfl (by kernel_rfl) (by kernel_rfl) (by kernel_rfl) (by kernel_rfl) (fun _ _ _ h => h) (by rfl) hS0 (fun v hv => ?_) ?_
        rotate_left
        · (obtain ⟨k1, k2, k3⟩ := hv; go_simp; all_goals rfl)
        simp only [Act.put]
        refine tame0 (k := 8) ?_ rfl (by kernel_rfl) (by kernel_rfl) (by kernel_rfl) (fun _ _ _ h => h) (by rfl) (fun v => ?_) ?_
        rotate_left
        · (go_simp; all_goals rfl)
        simp only [Act.put]
        refine tame (k := 9) ?_ rfl (by kernel_rfl) (by kernel_rfl) (by kernel_rfl) (by kernel_rfl) (fun _ _ _ h => h) (by rfl) hS0 (fun v hv => ?_) ?_
        rotate_left
        · (obtain ⟨k1, k2, k3⟩ := hv; go_simp; all_goals rfl)
        simp only [Act.put]
        clear hS0
        refine tame_two (i := 6) (j := 11) (by kernel_rfl) rfl rfl (by rfl) (by rfl) ?_ ?_
        · go_simp
          refine (l1Own_c A2 W c2 _ (h3.below hd (Nat.le_refl _)).r2 hW24).mono ?_
          rintro e w5 ⟨A4, c4, rfl, o4, b5⟩
          have H5 := bUp hd b5 (Nat.le_refl _)
          have o4 := o4.mono (B' := w3.heap.size) (Nat.le_refl _)
          refine ⟨by first | exact SK.out _ H5, ?_⟩
          refine tame0 (k := 7) ?_ rfl (by kernel_rfl) (by kernel_rfl) (by kernel_rfl) (fun _ _ _ h => h) (by rfl) (fun v => ?_) ?_
          rotate_left
          · (go_simp; all_goals rfl)
          simp only [Act.put]
          refine tame_two (i := 10) (j := 11) (by kernel_rfl) rfl rfl (by rfl) (by rfl) ?_ ?_
          · go_simp
            refine (l2Ends_c A1 P c1 A2 W.length c2 _ (h3.below H5 (Nat.le_refl _)).r1 HM.out.1.par HM.out.1.n2).mono ?_
            rintro e w6 ⟨Ae, ce, rfl, oe, b6⟩
            have H6 := bUp H5 b6 H5.size
            have nn := o4.apartR oe (Nat.le_refl _)
            have oe := oe.mono (B' := w3.heap.size) H5.size
            refine ⟨by first | exact SK.out _ H6, ?_⟩
            refine tame_one (k := 11) (by kernel_rfl) rfl (by rfl) ?_
            go_simp
            have bg : Bx (w6.alloc (.cells #[.slice none 0 0, .slice none 0 0] 26)) w6.heap.size (.slice none 0 0) (.slice none 0 0) := Bx.new w6 _ _ _
            have HA : Below w3.heap.size w3 (w6.alloc (.cells #[.slice none 0 0, .slice none 0 0] 26)) := H6.alloc H6.size _
            refine ⟨by first | exact SK.out _ HA | exact SK.out _ H6, ?_⟩
            have o46 := o4.below b6
            have z6 := H6.size
            have HA2 : Below w3.heap.size w3 (w6.alloc (.cells #[.slice A1 P.length c1, .slice A4 W.length c4] 26)) := H6.alloc H6.size _
            have FN := Lib.hid (And.intro HA2 (And.intro (Bx.new w6 (.slice A1 P.length c1) (.slice A4 W.length c4) 26) (And.intro (show w.heap.size < w6.heap.size by omega) (And.intro ((o46.alloc (.cells #[.slice A1 P.length c1, .slice A4 W.length c4] 26)).mono (show w.heap.size + 1 ≤ w3.heap.size by omega)) (And.intro ((oe.alloc (.cells #[.slice A1 P.length c1, .slice A4 W.length c4] 26)).mono (show w.heap.size + 1 ≤ w3.heap.size by omega)) (And.intro (bx3.below HA2) (bUp HB3 HA2 HB3.size)))))))
            have NN := Lib.hid (And.intro (blk_new o46 (Nat.le_refl _)) (And.intro (blk_new oe (Nat.le_refl _)) nn))
            obtain ⟨y0, y1, y2, y3, y4⟩ := id bg
            refine tame_one (k := 12) (by kernel_rfl) rfl (by rfl) ?_
            go_simp
            refine ⟨by first | exact SK.out _ FN.out.1 | exact SK.out _ H6 | exact SK.out _ (Below.refl _ _), ?_⟩
            refine tame_one (k := 13) (by kernel_rfl) rfl (by rfl) ?_
            go_simp
            refine ⟨by first | exact SK.out _ FN.out.1 | exact SK.out _ H6 | exact SK.out _ (Below.refl _ _), ?_⟩
            refine tame_end (by kernel_rfl) ?_
            go_wp2_with fail
            go_meet
            exact ⟨w6.heap.size, A4, Ae, c4, ce, rfl, rfl, FN.out.2.1, FN.out.2.2.1, FN.out.2.2.2.1, FN.out.2.2.2.2.1, FN.out.2.2.2.2.2.1, FN.out.2.2.2.2.2.2, NN.out⟩
          · go_simp
            have bg : Bx (w5.alloc (.cells #[.slice none 0 0, .slice none 0 0] 26)) w5.heap.size (.slice none 0 0) (.slice none 0 0) := Bx.new w5 _ _ _
            have HA : Below w3.heap.size w3 (w5.alloc (.cells #[.slice none 0 0, .slice none 0 0] 26)) := H5.alloc H5.size _
            refine ⟨by first | exact SK.out _ HA | exact SK.out _ H5, ?_⟩
            have n4 := blk_new o4 (Nat.le_refl _)
            have o4 := o4.alloc (.cells #[.slice none 0 0, .slice none 0 0] 26)
            refine tame_one (k := 10) (by kernel_rfl) rfl (by rfl) ?_
            go_simp
            refine (l2Ends_c A1 P c1 A2 W.length c2 _ (h3.below HA (Nat.le_refl _)).r1 HM.out.1.par HM.out.1.n2).mono ?_
            rintro e w6 ⟨Ae, ce, rfl, oe, b6⟩
            have H6 := bUp HA b6 HA.size
            have nn := o4.apartR oe (Nat.le_refl _)
            have ne6 := row_ne oe (g := w5.heap.size) (by simp)
            have oe := oe.mono (B' := w3.heap.size) HA.size
            refine ⟨by first | exact SK.out _ H6, ?_⟩
            have bg6 := bg.below b6
            have o46 := o4.below b6
            have z5 := H5.size
            have FN := Lib.hid (fw_fin (g := w5.heap.size) (.slice A1 P.length c1) (.slice A4 W.length c4) HB3 fz H6 z5 bg6 o46 oe n4 ne6 bx3)
            have NN := Lib.hid (And.intro n4 (And.intro ne6 nn))
            obtain ⟨y0, y1, y2, y3, y4⟩ := id bg6
            refine tame_one (k := 12) (by kernel_rfl) rfl (by rfl) ?_
            go_simp
            refine ⟨by first | exact SK.out _ FN.out.1 | exact SK.out _ H6 | exact SK.out _ (Below.refl _ _), ?_⟩
            refine tame_one (k := 13) (by kernel_rfl) rfl (by rfl) ?_
            go_simp
            refine ⟨by first | exact SK.out _ FN.out.1 | exact SK.out _ H6 | exact SK.out _ (Below.refl _ _), ?_⟩
            refine tame_end (by kernel_rfl) ?_
            go_wp2_with fail
            go_meet
            exact ⟨w5.heap.size, A4, Ae, c4, ce, rfl, rfl, FN.out.2.1, FN.out.2.2.1, FN.out.2.2.2.1, FN.out.2.2.2.2.1, FN.out.2.2.2.2.2.1, FN.out.2.2.2.2.2.2, NN.out⟩
        · go_simp
          have bg : Bx (w3.drew.alloc (.cells #[.slice none 0 0, .slice none 0 0] 26)) w3.heap.size (.slice none 0 0) (.slice none 0 0) := Bx.new w3.drew _ _ _
          have HA : Below w3.heap.size w3 (w3.drew.alloc (.cells #[.slice none 0 0, .slice none 0 0] 26)) := hd.alloc (Nat.le_refl _) _
          refine ⟨by first | exact SK.out _ HA | exact SK.out _ hd | exact SK.out _ (Below.refl _ _), ?_⟩
          refine tame_one (k := 6) (by kernel_rfl) rfl (by rfl) ?_
          go_simp
          refine (l1Own_c A2 W c2 _ (h3.below HA (Nat.le_refl _)).r2 hW24).mono ?_
          rintro e w5 ⟨A4, c4, rfl, o4, b5⟩
          have H5 := bUp HA b5 HA.size
          have n4 := row_ne o4 (g := w3.heap.size) (by simp)
          have o4 := o4.mono (B' := w3.heap.size) HA.size
          refine ⟨by first | exact SK.out _ H5, ?_⟩
          have bg5 := bg.below b5
          refine tame0 (k := 7) ?_ rfl (by kernel_rfl) (by kernel_rfl) (by kernel_rfl) (fun _ _ _ h => h) (by rfl) (fun v => ?_) ?_
          rotate_left
          · (go_simp; all_goals rfl)
          simp only [Act.put]
          refine tame_one (k := 10) (by kernel_rfl) rfl (by rfl) ?_
          go_simp
          refine (l2Ends_c A1 P c1 A2 W.length c2 _ (h3.below H5 (Nat.le_refl _)).r1 HM.out.1.par HM.out.1.n2).mono ?_
          rintro e w6 ⟨Ae, ce, rfl, oe, b6⟩
          have H6 := bUp H5 b6 H5.size
          have nn := o4.apartR oe (Nat.le_refl _)
          have ne6 := row_ne oe (g := w3.heap.size) (by have := bg5.2.2.2.2; exact this)
          have oe := oe.mono (B' := w3.heap.size) H5.size
          refine ⟨by first | exact SK.out _ H6, ?_⟩
          have bg6 := bg5.below b6
          have o46 := o4.below b6
          have FN := Lib.hid (fw_fin (g := w3.heap.size) (.slice A1 P.length c1) (.slice A4 W.length c4) HB3 fz H6 (Nat.le_refl _) bg6 o46 oe n4 ne6 bx3)
          have NN := Lib.hid (And.intro n4 (And.intro ne6 nn))
          obtain ⟨y0, y1, y2, y3, y4⟩ := id bg6
          refine tame_one (k := 12) (by kernel_rfl) rfl (by rfl) ?_
          go_simp
          refine ⟨by first | exact SK.out _ FN.out.1 | exact SK.out _ H6 | exact SK.out _ (Below.refl _ _), ?_⟩
          refine tame_one (k := 13) (by kernel_rfl) rfl (by rfl) ?_
          go_simp
          refine ⟨by first | exact SK.out _ FN.out.1 | exact SK.out _ H6 | exact SK.out _ (Below.refl _ _), ?_⟩
          refine tame_end (by kernel_rfl) ?_
          go_wp2_with fail
          go_meet
          exact ⟨w3.heap.size, A4, Ae, c4, ce, rfl, rfl, FN.out.2.1, FN.out.2.2.1, FN.out.2.2.2.1, FN.out.2.2.2.2.1, FN.out.2.2.2.2.2.1, FN.out.2.2.2.2.2.2, NN.out⟩
      case rest =>
        obtain ⟨g, A4, Ae, c4, ce, rfl, rfl, bg, hgw, o4, oe, bx4, HB4, n4, ne, nn⟩ := hcut
        have hWl := HM.out.1.len
        obtain ⟨g4, rfl, hg1, hg2⟩ := o4.form (by omega)
        have n4' : g4 ≠ g := fun h' => n4 (by rw [h']; rfl)
        have HWl := Lib.hid hWl
        clear bx3 HB3 n4 hWl
        go_wp2
        go_loopw [8] (fun i wr => ∃ k : Nat, k ≤ (endL P).length ∧ i = .int .i64 (k : Int) ∧ Own wr (w.heap.size + 1) (some ⟨g4, 0, none⟩) c4 (putE P X W k) ∧ Own wr (w.heap.size + 1) Ae ce (endL P) ∧ Bx wr g (.slice A1 P.length c1) (.slice (some ⟨g4, 0, none⟩) W.length c4) ∧
            Bx3 wr w.heap.size (.slice A1 P.length c1) (.slice A2 W.length c2) (.slice A3 F.length c3) ∧ Below w.heap.size w wr) (fun i _ => (endL P).length - (intOf i).toNat)
        case atStart => exact ⟨0, by omega, rfl, o4, oe, bg, bx4, HB4⟩
        case round =>
          obtain ⟨wo, rfl⟩ : ∃ wo : World, wo = wr := ⟨_, rfl⟩
          obtain ⟨k, hk, rfl, ho, pe, hgg, hxx, hB⟩ := hrel
          clear o4 oe bg bx4 HB4
          have hx' := hxx
          have hg' := hgg
          obtain ⟨f0, f1, f2, f3⟩ := hxx
          obtain ⟨z0, z1, z2, z3, z4⟩ := hgg
          by_cases hlt : k < (endL P).length
          · obtain ⟨j, hj, hje, hjn⟩ := endL_nth hlt
            obtain ⟨ae, rfl, qe⟩ := pe.rd.intN hlt
            rw [hjn] at qe
            obtain ⟨a7, rfl, q7⟩ := (h7.below hB (Nat.le_refl _)).intN (k := k) (by have := HX.out; omega)
            have i0 : (0 : Int) ≤ (k : Int) := by omega
            have i1 : (k : Int) < (X.length : Int) := by have := HX.out; omega
            have i3 : (0 : Int) ≤ (j : Int) := by omega
            have i2 : (j : Int) < (W.length : Int) := by have := HWl.out; omega
            have i4 : (k : Int) < ((endL P).length : Int) := by omega
            obtain ⟨u0, hco⟩ := ho.some_ (k := j) (by rw [putE_length]; have := HWl.out; omega)
            have hfo := ho.frozen j
            have hst := ho.set j (nth X k)
            have hS : putE P X W (k + 1) = (putE P X W k).set j (nth X k) := by rw [putE, hjn, Int.toNat_natCast]
            rw [← hS] at hst
            have pe3 := pe.grown hst.2 (by simpa [blk] using nn)
            have hx3 := hx'.grownR hst.2 (by simp; omega)
            have hg3 := hg'.grown hst.2 (by simpa using n4')
            have hB3 := hB.grown hst.2 hB.size (fun k hk => by cases hk; omega)
            have hB3 := hB3.drew
            clear hS hjn
            go_wp2
            refine wp_region_still_tail 11 (by kernel_rfl) (by kernel_rfl) ?_
            simp only [List.take_succ_cons, List.take_zero, List.drop_succ_cons, List.drop_zero]
            repeat still_step
            refine wpStill_nil ?_
            change wpList _ _ _ _ _ wo.drew
            go_wp2
            go_roundw
            case rel => exact ⟨k + 1, by omega, by go_num, hst.1, pe3, hg3.drewN 1, hx3.drewN 1, hB3⟩
            case measure => simp [intOf] <;> omega
          · have hkn : k = (endL P).length := by omega
            subst hkn
            rw [putE_w HM.out.1] at ho
            have hal : (atE P X).length = W.length := by rw [atE_length, HWl.out]
            have hal24 : (atE P X).length ≤ 16777216 := by rw [atE_length]; omega
            have HT := Lib.hid (atE_tree HM.out.1 HX.out)
            cases ha : allB X 1 20
            · have HQ := Lib.hid (fwB_3 (F := F) (W := W) hm HX.out ha)
              have HV := Lib.hid (fwV_no HQ.out)
              have CG := l2Good_is A1 P c1 (some ⟨g4, 0, none⟩) (atE P X) c4 false (by rw [HT.out, ha]) wo (h.below hB (Nat.le_refl _)).r1 ho.rd (by omega) hal24
              rw [hal] at CG
              clear hal hal24
              go_wp2_with fail
              refine CG.mono ?_
              rintro e w6 ⟨rfl, hb6⟩
              go_wp2
              go_ret2
              exact ⟨by rw [HV.out, HQ.out] <;> rfl, bUp hB hb6 hB.size⟩
            · have HQ := Lib.hid (fwB_3 (F := F) (W := W) hm HX.out ha)
              have HV : Hid (fwV P W F X = balA P (gath P (atE P X)) F) := Lib.hid (by rw [fwV, HQ.out, Bool.true_and])
              have htb : treeB P (atE P X) = true := by rw [HT.out, ha]
              have CG := l2Good_is A1 P c1 (some ⟨g4, 0, none⟩) (atE P X) c4 true htb wo (h.below hB (Nat.le_refl _)).r1 ho.rd (by omega) hal24
              have CB := fun (v : World) (hv : Below wo.heap.size wo v) => l4Balanced_c A1 P c1 (some ⟨g4, 0, none⟩) (atE P X) c4 A3 F c3 v (h.below (bUp hB hv hB.size) (Nat.le_refl _)).r1 (ho.below hv).rd (h.below (bUp hB hv hB.size) (Nat.le_refl _)).r3 (treeB_iff.1 htb) HM.out.2.1 HM.out.2.2
              rw [hal] at CG CB
              clear hal hal24
              have CB := Lib.hid CB
              go_wp2_with fail
              refine CG.mono ?_
              rintro e w6 ⟨rfl, hb6⟩
              have HB6 := bUp hB hb6 hB.size
              obtain ⟨t0, t1, t2, t3, t4⟩ := hg'.below hb6
              obtain ⟨p0, p1, p2, p3⟩ := hx'.below hb6
              clear f0 f1 f2 f3 z0 z1 z2 z3 z4 CG
              go_wp2_with fail
              refine (CB.out _ hb6).mono ?_
              rintro e w7 ⟨rfl, hb7⟩
              go_wp2
              go_ret2
              exact ⟨by rw [HV.out, HQ.out] <;> rfl, bUp HB6 hb7 HB6.size⟩
    · have e1 : ((X.length : Int) != ((endL P).length : Int)) = true := by simp; omega
      have HQ := Lib.hid (fwB_2 (W := W) (F := F) hl)
      rw [fwV_no HQ.out, HQ.out]
      clear hl
      go_enter Try.func32, Try.ntmps32
      go_wp2_with fail
      refine (l6Market_is _ _ _ _ _ _ _ _ _ _ hm _ hv).mono ?_
      rintro e w2 ⟨rfl, hb2⟩
      have HB2 := bUp HB1 hb2 HB1.size
      obtain ⟨f0, f1, f2, f3⟩ := bx.below hb2
      go_wp2_with fail
      refine (l2Ends_c _ _ _ _ _ _ _ (h.below HB2 (Nat.le_refl _)).r1 HM.out.1.par HM.out.1.n2).mono ?_
      rintro e w3 ⟨Ae, ce, rfl, oe, hb3⟩
      go_wp2
      go_ret2
      exact ⟨rfl, bUp HB2 hb3 HB2.size⟩
end Go.Proofs.Ytnhclpajfejnoaa
