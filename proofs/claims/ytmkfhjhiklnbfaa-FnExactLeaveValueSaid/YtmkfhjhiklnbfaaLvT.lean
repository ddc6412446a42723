/- Leaving an arm: the reference's walk by recursion. (Written by gen_lvt.py.) -/
import Derived.Test.YtmkfhjhiklnbfaaLvS
namespace Go.Proofs.Ytmkfhjhiklnbfaa
open Go.RowKit

set_option maxRecDepth 20000 in
set_option maxHeartbeats 2000000 in
theorem l8Leave_c (A1 : Option Addr) (P : List Int) (c1 : Nat) (A2 : Option Addr) (W : List Int) (c2 : Nat) (A3 : Option Addr) (F : List Int) (c3 : Nat) (a b l : Int) (hk : LvOk P W F (unitL P W b) a b l) :
    ∀ (n x : Nat) (w : World), P.length ≤ x + n → x < P.length → RdM w A1 P A2 W A3 F →
    Calls Try.prog 42 #[mkV A1 P.length c1 A2 W.length c2 A3 F.length c3, .int .i64 a, .int .i64 b, .int .i64 l, .int .i64 (x : Int)] w (Quietly w (.int .i64 (lV P F (unitL P W b) a l x))) := by
  intro n
  induction n with
  | zero => intro x w h1 h2; omega
  | succ n ih =>
    intro x w hn hx h
    have HB1 : Below w.heap.size w (w.alloc (.cells #[.slice A1 P.length c1, .slice A2 W.length c2, .slice A3 F.length c3] 26)) := (Below.refl _ _).alloc (Nat.le_refl _) _
    have bx := Bx3.new w (.slice A1 P.length c1) (.slice A2 W.length c2) (.slice A3 F.length c3) 26
    have hok := hk.arm
    have hn1 := hok.tree.n1
    have hn2 := hok.tree.n2
    have hn9 := hok.n9
    have hpar := hok.tree.par
    have HFL := Lib.hid hok.len
    have HN := Lib.hid hn
    have i0 : (0 : Int) ≤ (x : Int) := by omega
    have i1 : (x : Int) < (P.length : Int) := by omega
    have hkl24 : (kids P (x : Int)).length ≤ 24 := Nat.le_trans (kidTo_len P x P.length) (by omega)
    have hb0 : 0 ≤ b := by have := hk.a1; have := hk.ab; omega
    have hb4 := hk.b4
    clear hn
    go_enter Try.func42, Try.ntmps42
    go_wp2_with fail
    generalize w.alloc (.cells #[.slice A1 P.length c1, .slice A2 W.length c2, .slice A3 F.length c3] 26) = v at *
    refine (l8Units_c A1 P c1 A2 W c2 A3 F c3 b _ (h.below HB1 (Nat.le_refl _)).r1 (h.below HB1 (Nat.le_refl _)).r2 hok hb0 hb4 _).mono ?_
    rintro e w2 ⟨Au, cu, rfl, ou, b2⟩
    have HB2 := bUp HB1 b2 HB1.size
    have bx2 := bx.below b2
    have HUL := Lib.hid (unitL_length P W b)
    obtain ⟨gu, rfl, hgu, hgu2⟩ := ou.form (by rw [HUL.out]; omega)
    have qu := ou.cellN (k := x) (by rw [HUL.out]; exact hx)
    clear ou b2 bx HB1
    have hub := hk.ub x
    have hlu := hk.lu x
    have hfu := hk.fu x
    generalize hU : unitL P W b = U at *
    go_upto_region 2 with fail
    obtain ⟨f0, f1, f2, fz⟩ := id bx2
    obtain ⟨a3, rfl, q3⟩ := (h.below HB2 (Nat.le_refl _)).r3.intN (k := x) (by rw [HFL.out]; exact hx)
    have i2 : (x : Int) < (F.length : Int) := by rw [HFL.out]; omega
    have e1 : IntKind.i64.wrap (nth F x * nth U x) = nth F x * nth U x := IntWalk.i64_in _ (by omega)
    have hd : Below w2.heap.size w2 w2.drew := Below.drew (Below.refl _ _)
    have SK : Hid (∀ w', Below w2.heap.size w2 w' → w'.cell? ⟨w.heap.size, 0, none⟩ = some (.slice A1 P.length c1) ∧ w'.cell? ⟨w.heap.size, 1, none⟩ = some (.slice A2 W.length c2) ∧ w'.cell? ⟨w.heap.size, 2, none⟩ = some (.slice (some a3) F.length c3) ∧ w'.cell? (a3.add x) = some (.int .i64 (nth F x))) :=
      Lib.hid fun w' HV => ⟨(HV.cell (p := ⟨w.heap.size, 0, none⟩) fz).trans f0, (HV.cell (p := ⟨w.heap.size, 1, none⟩) fz).trans f1, (HV.cell (p := ⟨w.heap.size, 2, none⟩) fz).trans f2, (HV.cell (cell_lt q3)).trans q3⟩
    clear f0 f1 f2 q3 qu
    have hS0 := SK.out w2.drew hd
    have h1' := (h.below (Below.drew HB2) (Nat.le_refl _)).r1
    refine tamed_region (S := fun w' => w'.cell? ⟨w.heap.size, 0, none⟩ = some (.slice A1 P.length c1) ∧ w'.cell? ⟨w.heap.size, 1, none⟩ = some (.slice A2 W.length c2) ∧ w'.cell? ⟨w.heap.size, 2, none⟩ = some (.slice (some a3) F.length c3) ∧ w'.cell? (a3.add x) = some (.int .i64 (nth F x))) (fun _ => false) (by kernel_rfl) ?_
    refine tame0 (k := 0) ?_ rfl (by kernel_rfl) (by kernel_rfl) (by kernel_rfl) (fun _ _ _ h => h) (by kernel_rfl) (fun v => ?_) ?_
    rotate_left
    · (go_simp; all_goals rfl)
    simp only [Act.put, List.setIfInBounds_toArray]
    refine tame (k := 1) ?_ rfl (by kernel_rfl) (by kernel_rfl) (by kernel_rfl) (by kernel_rfl) (fun _ _ _ h => h) (by kernel_rfl) hS0 (fun v hv => ?_) ?_
    rotate_left
    · (obtain ⟨k1, k2, k3, k4⟩ := hv; go_simp; all_goals rfl)
    simp only [Act.put]
    refine tame0 (k := 2) ?_ rfl (by kernel_rfl) (by kernel_rfl) (by kernel_rfl) (fun _ _ _ h => h) (by kernel_rfl) (fun v => ?_) ?_
    rotate_left
    · (go_simp; all_goals rfl)
    simp only [Act.put]
    refine tame0 (k := 4) ?_ rfl (by kernel_rfl) (by kernel_rfl) (by kernel_rfl) (fun _ _ _ h => h) (by kernel_rfl) (fun v => ?_) ?_
    rotate_left
    · (go_simp; all_goals rfl)
    simp only [Act.put]
    refine tame (k := 5) ?_ rfl (by kernel_rfl) (by kernel_rfl) (by kernel_rfl) (by kernel_rfl) (fun _ _ _ h => h) (by kernel_rfl) hS0 (fun v hv => ?_) ?_
    rotate_left
    · (obtain ⟨k1, k2, k3, k4⟩ := hv; go_simp; all_goals rfl)
    simp only [Act.put]
    refine tame0 (k := 6) ?_ rfl (by kernel_rfl) (by kernel_rfl) (by kernel_rfl) (fun _ _ _ h => h) (by kernel_rfl) (fun v => ?_) ?_
    rotate_left
    · (go_simp; all_goals rfl)
    simp only [Act.put]
    refine tame0 (k := 7) ?_ rfl (by kernel_rfl) (by kernel_rfl) (by kernel_rfl) (fun _ _ _ h => h) (by kernel_rfl) (fun v => ?_) ?_
    rotate_left
    · (go_simp; all_goals rfl)
    simp only [Act.put]
    refine tame (k := 8) ?_ rfl (by kernel_rfl) (by kernel_rfl) (by kernel_rfl) (by kernel_rfl) (fun _ _ _ h => h) (by kernel_rfl) hS0 (fun v hv => ?_) ?_
    rotate_left
    · (obtain ⟨k1, k2, k3, k4⟩ := hv; go_simp; all_goals rfl)
    simp only [Act.put]
    refine tame0 (k := 9) ?_ rfl (by kernel_rfl) (by kernel_rfl) (by kernel_rfl) (fun _ _ _ h => h) (by kernel_rfl) (fun v => ?_) ?_
    rotate_left
    · (go_simp; all_goals rfl)
    simp only [Act.put]
    refine tame0 (k := 10) ?_ rfl (by kernel_rfl) (by kernel_rfl) (by kernel_rfl) (fun _ _ _ h => h) (by kernel_rfl) (fun v => ?_) ?_
    rotate_left
    · (go_simp; all_goals rfl)
    simp only [Act.put]
    refine tame_one (k := 3) (by kernel_rfl) rfl (by kernel_rfl) ?_
    go_simp
    refine (l2Kids_c A1 P c1 A2 W.length c2 x _ h1' hpar hx hn2).mono ?_
    rintro e w5 ⟨Ak, ck, rfl, ok, b5⟩
    have H5 := bUp hd b5 (Nat.le_refl _)
    have hS5 := Lib.hid (SK.out _ H5)
    refine ⟨by first | exact hS5.out, ?_⟩
    have ok5 := ok.mono (B' := w.heap.size + 1) fz
    have HB5 := HB2.trans (H5.mono HB2.size)
    have bx5 := bx2.below H5
    clear ok b5 hS0 hd h1' SK bx2 HB2
    refine tame_one (k := 11) (by kernel_rfl) rfl (by kernel_rfl) ?_
    go_simp
    refine ⟨by first | exact hS5.out, ?_⟩
    refine tame_one (k := 12) (by kernel_rfl) rfl (by kernel_rfl) ?_
    go_simp
    refine ⟨by first | exact hS5.out, ?_⟩
    refine tame_end (by kernel_rfl) ?_
    clear hS5 H5
    go_wp2_with fail
    go_loopw [13, 14] (fun s i wr => ∃ k : Nat, k ≤ (kids P (x : Int)).length ∧ i = .int .i64 (k : Int) ∧ s = .int .i64 (onTo P F U a l x k) ∧ Own wr (w.heap.size + 1) Ak ck (kids P (x : Int)) ∧ Bx3 wr w.heap.size (.slice A1 P.length c1) (.slice A2 W.length c2) (.slice (some a3) F.length c3) ∧ Below w.heap.size w wr) (fun _ i _ => (kids P (x : Int)).length - (intOf i).toNat)
    case atStart => exact ⟨0, by omega, rfl, by rw [onTo_zero], ok5, bx5, HB5⟩
    case round =>
      clear ok5 bx5 HB5
      obtain ⟨k, hkl, rfl, rfl, okk, bx, HB⟩ := hrel
      obtain ⟨v, rfl⟩ : ∃ v : World, v = wr := ⟨_, rfl⟩
      by_cases hlt : k < (kids P (x : Int)).length
      · obtain ⟨f0, f1, f2, fz⟩ := id bx
        have j1 : (k : Int) < ((kids P (x : Int)).length : Int) := by omega
        have j0 : (0 : Int) ≤ (k : Int) := by omega
        obtain ⟨gk, rfl, hgk, hgk2⟩ := okk.form (by omega)
        have qk := okk.cellN hlt
        obtain ⟨y, hy, hxy, hyl, hpy⟩ := kid_at hpar hlt
        rw [hy] at qk
        have hbd := hk.abd hyl
        have hob := hk.on_bd (x := x) (k := k) hkl
        have hob1 := hk.on_bd (x := x) (k := k + 1) hlt
        have hos := onTo_succ P F U a l x k
        rw [hy, Int.toNat_natCast] at hos
        have HOS := Lib.hid hos
        rw [hos] at hob1
        clear hos hy hpy
        have e2 : IntKind.i64.wrap (a * lV P F U a l y) = a * lV P F U a l y := IntWalk.i64_in _ (by omega)
        have e3 : IntKind.i64.wrap (onTo P F U a l x k + a * lV P F U a l y) = onTo P F U a l x k + a * lV P F U a l y := IntWalk.i64_in _ (by omega)
        go_upto_region 6 with fail
        have hd : Below v.heap.size v v.drew := Below.drew (Below.refl _ _)
        have SK : Hid (∀ w', Below v.heap.size v w' → w'.cell? ⟨w.heap.size, 0, none⟩ = some (.slice A1 P.length c1) ∧ w'.cell? ⟨w.heap.size, 1, none⟩ = some (.slice A2 W.length c2) ∧ w'.cell? ⟨w.heap.size, 2, none⟩ = some (.slice (some a3) F.length c3) ∧ w'.cell? ⟨gk, k, none⟩ = some (.int .i64 (y : Int))) :=
          Lib.hid fun w' HV => ⟨(HV.cell (p := ⟨w.heap.size, 0, none⟩) fz).trans f0, (HV.cell (p := ⟨w.heap.size, 1, none⟩) fz).trans f1, (HV.cell (p := ⟨w.heap.size, 2, none⟩) fz).trans f2, (HV.cell (p := ⟨gk, k, none⟩) hgk2).trans qk⟩
        clear f0 f1 f2 qk
        have hS0 := SK.out v.drew hd
        refine tamed_region (S := fun w' => w'.cell? ⟨w.heap.size, 0, none⟩ = some (.slice A1 P.length c1) ∧ w'.cell? ⟨w.heap.size, 1, none⟩ = some (.slice A2 W.length c2) ∧ w'.cell? ⟨w.heap.size, 2, none⟩ = some (.slice (some a3) F.length c3) ∧ w'.cell? ⟨gk, k, none⟩ = some (.int .i64 (y : Int))) (fun _ => false) (by kernel_rfl) ?_
        refine tame0 (k := 0) ?_ rfl (by kernel_rfl) (by kernel_rfl) (by kernel_rfl) (fun _ _ _ h => h) (by kernel_rfl) (fun v => ?_) ?_
        rotate_left
        · (go_simp; all_goals rfl)
        simp only [Act.put, List.setIfInBounds_toArray]
        refine tame0 (k := 1) ?_ rfl (by kernel_rfl) (by kernel_rfl) (by kernel_rfl) (fun _ _ _ h => h) (by kernel_rfl) (fun v => ?_) ?_
        rotate_left
        · (go_simp; all_goals rfl)
        simp only [Act.put]
        refine tame (k := 2) ?_ rfl (by kernel_rfl) (by kernel_rfl) (by kernel_rfl) (by kernel_rfl) (fun _ _ _ h => h) (by kernel_rfl) hS0 (fun v hv => ?_) ?_
        rotate_left
        · (obtain ⟨k1, k2, k3, k4⟩ := hv; go_simp; all_goals rfl)
        simp only [Act.put]
        refine tame0 (k := 3) ?_ rfl (by kernel_rfl) (by kernel_rfl) (by kernel_rfl) (fun _ _ _ h => h) (by kernel_rfl) (fun v => ?_) ?_
        rotate_left
        · (go_simp; all_goals rfl)
        simp only [Act.put]
        refine tame0 (k := 4) ?_ rfl (by kernel_rfl) (by kernel_rfl) (by kernel_rfl) (fun _ _ _ h => h) (by kernel_rfl) (fun v => ?_) ?_
        rotate_left
        · (go_simp; all_goals rfl)
        simp only [Act.put]
        refine tame0 (k := 5) ?_ rfl (by kernel_rfl) (by kernel_rfl) (by kernel_rfl) (fun _ _ _ h => h) (by kernel_rfl) (fun v => ?_) ?_
        rotate_left
        · (go_simp; all_goals rfl)
        simp only [Act.put]
        refine tame0 (k := 6) ?_ rfl (by kernel_rfl) (by kernel_rfl) (by kernel_rfl) (fun _ _ _ h => h) (by kernel_rfl) (fun v => ?_) ?_
        rotate_left
        · (go_simp; all_goals rfl)
        simp only [Act.put]
        refine tame0 (k := 7) ?_ rfl (by kernel_rfl) (by kernel_rfl) (by kernel_rfl) (fun _ _ _ h => h) (by kernel_rfl) (fun v => ?_) ?_
        rotate_left
        · (go_simp; all_goals rfl)
        simp only [Act.put]
        refine tame0 (k := 8) ?_ rfl (by kernel_rfl) (by kernel_rfl) (by kernel_rfl) (fun _ _ _ h => h) (by kernel_rfl) (fun v => ?_) ?_
        rotate_left
        · (go_simp; all_goals rfl)
        simp only [Act.put]
        refine tame (k := 9) ?_ rfl (by kernel_rfl) (by kernel_rfl) (by kernel_rfl) (by kernel_rfl) (fun _ _ _ h => h) (by kernel_rfl) hS0 (fun v hv => ?_) ?_
        rotate_left
        · (obtain ⟨k1, k2, k3, k4⟩ := hv; go_simp; all_goals rfl)
        simp only [Act.put]
        refine tame_one (k := 10) (by kernel_rfl) rfl (by kernel_rfl) ?_
        go_simp
        refine (ih y _ (by have := HN.out; omega) hyl (h.below (Below.drew HB) (Nat.le_refl _))).mono ?_
        rintro e w5 ⟨rfl, b5⟩
        have H5 := bUp hd b5 (Nat.le_refl _)
        have hS5 := Lib.hid (SK.out _ H5)
        refine ⟨by first | exact hS5.out, ?_⟩
        refine tame_one (k := 11) (by kernel_rfl) rfl (by kernel_rfl) ?_
        go_simp
        refine ⟨by first | exact hS5.out, ?_⟩
        refine tame_one (k := 12) (by kernel_rfl) rfl (by kernel_rfl) ?_
        go_simp
        refine ⟨by first | exact hS5.out, ?_⟩
        rw [← HOS.out]
        refine tame_one (k := 13) (by kernel_rfl) rfl (by kernel_rfl) ?_
        go_simp
        refine ⟨by first | exact hS5.out, ?_⟩
        refine tame_end (by kernel_rfl) ?_
        clear hS5
        go_wp2_with fail
        go_roundw
        case rel => exact ⟨k + 1, hlt, by go_num, rfl, okk.below H5, bx.below H5, HB.trans (H5.mono HB.size)⟩
        case measure => simp [intOf] <;> omega
      · have hkn : k = (kids P (x : Int)).length := by omega
        subst hkn
        have e2 : IntKind.i64.wrap (l * nth U x) = l * nth U x := IntWalk.i64_in _ (by omega)
        cases he : endB P x
        · have HV := Lib.hid (lV_in (F := F) (U := U) (a := a) (l := l) hpar hx he)
          have k0 := kids_len0 he
          clear he
          go_wp2_with fail
          refine (l1Most_is _ _ _ HV.out.symm _).mono ?_
          rintro e w' ⟨rfl, rfl⟩
          go_wp2
          go_ret
          exact ⟨rfl, HB⟩
        · have HV := Lib.hid (lV_end (F := F) (U := U) (a := a) (l := l) hpar hx he)
          have k0 := kids_len0 he
          clear he
          go_wp2
          go_ret
          exact ⟨by rw [HV.out] <;> rfl, HB⟩

set_option maxRecDepth 20000 in
theorem specLv_c (A1 : Option Addr) (P : List Int) (c1 : Nat) (A2 : Option Addr) (W : List Int) (c2 : Nat) (A3 : Option Addr) (F : List Int) (c3 : Nat) (a b l : Int) (w : World) (h : RdM w A1 P A2 W A3 F) :
    Calls Try.prog 19 #[mkV A1 P.length c1 A2 W.length c2 A3 F.length c3, .int .i64 a, .int .i64 b, .int .i64 l] w (Quietly w (.tuple #[.int .i64 (lvV P W F a b l), .bool (lvB P W F a b l)])) := by
  have HB1 : Below w.heap.size w (w.alloc (.cells #[.slice A1 P.length c1, .slice A2 W.length c2, .slice A3 F.length c3] 26)) := (Below.refl _ _).alloc (Nat.le_refl _) _
  have bx := Bx3.new w (.slice A1 P.length c1) (.slice A2 W.length c2) (.slice A3 F.length c3) 26
  cases hq : (armB P W F && discB a b)
  · have HQ := Lib.hid (lvB_1 (l := l) hq)
    rw [lvV_no HQ.out, HQ.out]
    go_enter Try.func19, Try.ntmps19
    go_wp2_with fail
    refine (l8One_is _ _ _ _ _ _ _ _ _ _ _ _ hq _ (h.below HB1 (Nat.le_refl _))).mono ?_
    rintro e w2 ⟨rfl, b2⟩
    go_wp2
    go_ret2
    exact ⟨rfl, bUp HB1 b2 HB1.size⟩
  · cases hi : inB l (-99) 99
    · have HQ := Lib.hid (lvB_2 (P := P) (W := W) (F := F) (a := a) (b := b) hi)
      rw [lvV_no HQ.out, HQ.out]
      go_enter Try.func19, Try.ntmps19
      go_wp2_with fail
      refine (l8One_is _ _ _ _ _ _ _ _ _ _ _ _ hq _ (h.below HB1 (Nat.le_refl _))).mono ?_
      rintro e w2 ⟨rfl, b2⟩
      go_wp2_with fail
      refine (l1In_is _ _ _ _ hi _).mono ?_
      rintro e w3 ⟨rfl, rfl⟩
      go_wp2
      go_ret2
      exact ⟨rfl, bUp HB1 b2 HB1.size⟩
    · have HQ := Lib.hid (lvB_3 hq hi)
      have hk := lvB_iff.1 HQ.out
      rw [lvV_yes HQ.out, HQ.out]
      go_enter Try.func19, Try.ntmps19
      go_wp2_with fail
      refine (l8One_is _ _ _ _ _ _ _ _ _ _ _ _ hq _ (h.below HB1 (Nat.le_refl _))).mono ?_
      rintro e w2 ⟨rfl, b2⟩
      have HB2 := bUp HB1 b2 HB1.size
      obtain ⟨f0, f1, f2, fz⟩ := bx.below b2
      clear bx b2 HB1
      go_wp2_with fail
      refine (l1In_is _ _ _ _ hi _).mono ?_
      rintro e w3 ⟨rfl, rfl⟩
      go_wp2_with fail
      refine (l8Leave_c A1 P c1 A2 W c2 A3 F c3 a b l hk P.length 0 _ (by omega) (by have := hk.arm.tree.n1; omega) (h.below HB2 (Nat.le_refl _))).mono ?_
      rintro e w4 ⟨rfl, b4⟩
      go_wp2
      go_ret2
      exact ⟨rfl, bUp HB2 b4 HB2.size⟩
end Go.Proofs.Ytmkfhjhiklnbfaa
