/- LeaveValue: both. -/
import Derived.Test.YtfobjkdkjlbkfaaLvB
namespace Go.Proofs.Ytfobjkdkjlbkfaa
open Go.RowKit

set_option maxRecDepth 20000 in
set_option maxHeartbeats 2000000 in
theorem l8Leave_c (A1 : Option Addr) (P : List Int) (c1 : Nat) (A2 : Option Addr) (W : List Int) (c2 : Nat) (A3 : Option Addr) (F : List Int) (c3 : Nat) (a b l : Int) (hk : LvOk P W F (unitL P W b) a b l) :
    ∀ (n x : Nat) (w : World), P.length ≤ x + n → x < P.length → RdM w A1 P A2 W A3 F →
    Calls Try.prog 75 #[mkV A1 P.length c1 A2 W.length c2 A3 F.length c3, .int .i64 a, .int .i64 b, .int .i64 l, .int .i64 (x : Int)] w (Quietly w (.int .i64 (lV P F (unitL P W b) a l x))) := by
  intro n
  induction n with
  | zero => intro x w h1 h2; omega
  | succ n ih =>
    intro x w hn hx h
    have HB1 : Below w.heap.size w (w.alloc (.cells #[.slice A1 P.length c1, .slice A2 W.length c2, .slice A3 F.length c3] 28)) := (Below.refl _ _).alloc (Nat.le_refl _) _
    have bx := Bx3.new w (.slice A1 P.length c1) (.slice A2 W.length c2) (.slice A3 F.length c3) 28
    have hok := hk.arm
    have hn1 := hok.tree.n1
    have hn2 := hok.tree.n2
    have hn9 := hok.n9
    have hpar := hok.tree.par
    have HFL := Lib.hid hok.len
    have HN := Lib.hid hn
    have i0 : (0 : Int) ≤ (x : Int) := by omega
    have i1 : (x : Int) < (P.length : Int) := by omega
    have hkl24 : (kids P (x : Int)).length ≤ 24 := Nat.le_trans (kidTo_len P x P.length) (by omega)
    have hb0 : 0 ≤ b := by have := hk.a1; have := hk.ab; omega
    have hb4 := hk.b4
    clear hn
    go_enter Try.func75, Try.ntmps75
    go_wp2_with fail
    generalize w.alloc (.cells #[.slice A1 P.length c1, .slice A2 W.length c2, .slice A3 F.length c3] 28) = v at *
    refine (l8Units_c A1 P c1 A2 W c2 A3 F c3 b _ (h.below HB1 (Nat.le_refl _)).r1 (h.below HB1 (Nat.le_refl _)).r2 hok hb0 hb4 _).mono ?_
    rintro e w2 ⟨Au, cu, rfl, ou, b2⟩
    have HB2 := bUp HB1 b2 HB1.size
    have bx2 := bx.below b2
    have HUL := Lib.hid (unitL_length P W b)
    obtain ⟨gu, rfl, hgu, hgu2⟩ := ou.form (by rw [HUL.out]; omega)
    have qu := ou.cellN (k := x) (by rw [HUL.out]; exact hx)
    clear ou b2 bx HB1
    have hub := hk.ub x
    have hlu := hk.lu x
    have hfu := hk.fu x
    generalize hU : unitL P W b = U at *
    go_upto_region 2 with fail
    obtain ⟨f0, f1, f2, fz⟩ := id bx2
    obtain ⟨a3, rfl, q3⟩ := (h.below HB2 (Nat.le_refl _)).r3.intN (k := x) (by rw [HFL.out]; exact hx)
    have i2 : (x : Int) < (F.length : Int) := by rw [HFL.out]; omega
    have e1 : IntKind.i64.wrap (nth F x * nth U x) = nth F x * nth U x := IntWalk.i64_in _ (by omega)
    have hd : Below w2.heap.size w2 w2.drew := Below.drew (Below.refl _ _)
    have SK : Hid (∀ w', Below w2.heap.size w2 w' → w'.cell? ⟨w.heap.size, 0, none⟩ = some (.slice A1 P.length c1) ∧ w'.cell? ⟨w.heap.size, 1, none⟩ = some (.slice A2 W.length c2) ∧ w'.cell? ⟨w.heap.size, 2, none⟩ = some (.slice (some a3) F.length c3) ∧ w'.cell? (a3.add x) = some (.int .i64 (nth F x))) :=
      Lib.hid fun w' HV => ⟨(HV.cell (p := ⟨w.heap.size, 0, none⟩) fz).trans f0, (HV.cell (p := ⟨w.heap.size, 1, none⟩) fz).trans f1, (HV.cell (p := ⟨w.heap.size, 2, none⟩) fz).trans f2, (HV.cell (cell_lt q3)).trans q3⟩
    clear f0 f1 f2 q3 qu
    have hS0 := SK.out w2.drew hd
    have h1' := (h.below (Below.drew HB2) (Nat.le_refl _)).r1
    refine tamed_region (S := fun w' => w'.cell? ⟨w.heap.size, 0, none⟩ = some (.slice A1 P.length c1) ∧ w'.cell? ⟨w.heap.size, 1, none⟩ = some (.slice A2 W.length c2) ∧ w'.cell? ⟨w.heap.size, 2, none⟩ = some (.slice (some a3) F.length c3) ∧ w'.cell? (a3.add x) = some (.int .i64 (nth F x))) (fun _ => false) (by kernel_rfl) ?_
    refine tame0 (k := 0) ?_ rfl (by kernel_rfl) (by kernel_rfl) (by kernel_rfl) (fun _ _ _ h => h) (by kernel_rfl) (fun v => ?_) ?_
    rotate_left
    · (go_simp; all_goals rfl)
    simp only [Act.put, List.setIfInBounds_toArray]
    refine tame (k := 1) ?_ rfl (by kernel_rfl) (by kernel_rfl) (by kernel_rfl) (by kernel_rfl) (fun _ _ _ h => h) (by kernel_rfl) hS0 (fun v hv => ?_) ?_
    rotate_left
    · (obtain ⟨k1, k2, k3, k4⟩ := hv; go_simp; all_goals rfl)
    simp only [Act.put]
    refine tame0 (k := 2) ?_ rfl (by kernel_rfl) (by kernel_rfl) (by kernel_rfl) (fun _ _ _ h => h) (by kernel_rfl) (fun v => ?_) ?_
    rotate_left
    · (go_simp; all_goals rfl)
    simp only [Act.put]
    refine tame0 (k := 4) ?_ rfl (by kernel_rfl) (by kernel_rfl) (by kernel_rfl) (fun _ _ _ h => h) (by kernel_rfl) (fun v => ?_) ?_
    rotate_left
    · (go_simp; all_goals rfl)
    simp only [Act.put]
    refine tame (k := 5) ?_ rfl (by kernel_rfl) (by kernel_rfl) (by kernel_rfl) (by kernel_rfl) (fun _ _ _ h => h) (by kernel_rfl) hS0 (fun v hv => ?_) ?_
    rotate_left
    · (obtain ⟨k1, k2, k3, k4⟩ := hv; go_simp; all_goals rfl)
    simp only [Act.put]
    refine tame0 (k := 6) ?_ rfl (by kernel_rfl) (by kernel_rfl) (by kernel_rfl) (fun _ _ _ h => h) (by kernel_rfl) (fun v => ?_) ?_
    rotate_left
    · (go_simp; all_goals rfl)
    simp only [Act.put]
    refine tame0 (k := 7) ?_ rfl (by kernel_rfl) (by kernel_rfl) (by kernel_rfl) (fun _ _ _ h => h) (by kernel_rfl) (fun v => ?_) ?_
    rotate_left
    · (go_simp; all_goals rfl)
    simp only [Act.put]
    refine tame (k := 8) ?_ rfl (by kernel_rfl) (by kernel_rfl) (by kernel_rfl) (by kernel_rfl) (fun _ _ _ h => h) (by kernel_rfl) hS0 (fun v hv => ?_) ?_
    rotate_left
    · (obtain ⟨k1, k2, k3, k4⟩ := hv; go_simp; all_goals rfl)
    simp only [Act.put]
    refine tame0 (k := 9) ?_ rfl (by kernel_rfl) (by kernel_rfl) (by kernel_rfl) (fun _ _ _ h => h) (by kernel_rfl) (fun v => ?_) ?_
    rotate_left
    · (go_simp; all_goals rfl)
    simp only [Act.put]
    refine tame0 (k := 10) ?_ rfl (by kernel_rfl) (by kernel_rfl) (by kernel_rfl) (fun _ _ _ h => h) (by kernel_rfl) (fun v => ?_) ?_
    rotate_left
    · (go_simp; all_goals rfl)
    simp only [Act.put]
    refine tame_one (k := 3) (by kernel_rfl) rfl (by kernel_rfl) ?_
    go_simp
    refine (l2Kids_c A1 P c1 A2 W.length c2 x _ h1' hpar hx hn2).mono ?_
    rintro e w5 ⟨Ak, ck, rfl, ok, b5⟩
    have H5 := bUp hd b5 (Nat.le_refl _)
    have hS5 := Lib.hid (SK.out _ H5)
    refine ⟨by first | exact hS5.out, ?_⟩
    have ok5 := ok.mono (B' := w.heap.size + 1) fz
    have HB5 := HB2.trans (H5.mono HB2.size)
    have bx5 := bx2.below H5
    clear ok b5 hS0 hd h1' SK bx2 HB2
    refine tame_one (k := 11) (by kernel_rfl) rfl (by kernel_rfl) ?_
    go_simp
    refine ⟨by first | exact hS5.out, ?_⟩
    refine tame_one (k := 12) (by kernel_rfl) rfl (by kernel_rfl) ?_
    go_simp
    refine ⟨by first | exact hS5.out, ?_⟩
    refine tame_end (by kernel_rfl) ?_
    clear hS5 H5
    go_wp2_with fail
    go_loopw [13, 14] (fun s i wr => ∃ k : Nat, k ≤ (kids P (x : Int)).length ∧ i = .int .i64 (k : Int) ∧ s = .int .i64 (onTo P F U a l x k) ∧ Own wr (w.heap.size + 1) Ak ck (kids P (x : Int)) ∧ Bx3 wr w.heap.size (.slice A1 P.length c1) (.slice A2 W.length c2) (.slice (some a3) F.length c3) ∧ Below w.heap.size w wr) (fun _ i _ => (kids P (x : Int)).length - (intOf i).toNat)
    case atStart => exact ⟨0, by omega, rfl, by rw [onTo_zero], ok5, bx5, HB5⟩
    case round =>
      clear ok5 bx5 HB5
      obtain ⟨k, hkl, rfl, rfl, okk, bx, HB⟩ := hrel
      obtain ⟨v, rfl⟩ : ∃ v : World, v = wr := ⟨_, rfl⟩
      by_cases hlt : k < (kids P (x : Int)).length
      · obtain ⟨f0, f1, f2, fz⟩ := id bx
        have j1 : (k : Int) < ((kids P (x : Int)).length : Int) := by omega
        have j0 : (0 : Int) ≤ (k : Int) := by omega
        obtain ⟨gk, rfl, hgk, hgk2⟩ := okk.form (by omega)
        have qk := okk.cellN hlt
        obtain ⟨y, hy, hxy, hyl, hpy⟩ := kid_at hpar hlt
        rw [hy] at qk
        have hbd := hk.abd hyl
        have hob := hk.on_bd (x := x) (k := k) hkl
        have hob1 := hk.on_bd (x := x) (k := k + 1) hlt
        have hos := onTo_succ P F U a l x k
        rw [hy, Int.toNat_natCast] at hos
        have HOS := Lib.hid hos
        rw [hos] at hob1
        clear hos hy hpy
        have e2 : IntKind.i64.wrap (a * lV P F U a l y) = a * lV P F U a l y := IntWalk.i64_in _ (by omega)
        have e3 : IntKind.i64.wrap (onTo P F U a l x k + a * lV P F U a l y) = onTo P F U a l x k + a * lV P F U a l y := IntWalk.i64_in _ (by omega)
        go_upto_region 6 with fail
        have hd : Below v.heap.size v v.drew := Below.drew (Below.refl _ _)
        have SK : Hid (∀ w', Below v.heap.size v w' → w'.cell? ⟨w.heap.size, 0, none⟩ = some (.slice A1 P.length c1) ∧ w'.cell? ⟨w.heap.size, 1, none⟩ = some (.slice A2 W.length c2) ∧ w'.cell? ⟨w.heap.size, 2, none⟩ = some (.slice (some a3) F.length c3) ∧ w'.cell? ⟨gk, k, none⟩ = some (.int .i64 (y : Int))) :=
          Lib.hid fun w' HV => ⟨(HV.cell (p := ⟨w.heap.size, 0, none⟩) fz).trans f0, (HV.cell (p := ⟨w.heap.size, 1, none⟩) fz).trans f1, (HV.cell (p := ⟨w.heap.size, 2, none⟩) fz).trans f2, (HV.cell (p := ⟨gk, k, none⟩) hgk2).trans qk⟩
        clear f0 f1 f2 qk
        have hS0 := SK.out v.drew hd
        refine tamed_region (S := fun w' => w'.cell? ⟨w.heap.size, 0, none⟩ = some (.slice A1 P.length c1) ∧ w'.cell? ⟨w.heap.size, 1, none⟩ = some (.slice A2 W.length c2) ∧ w'.cell? ⟨w.heap.size, 2, none⟩ = some (.slice (some a3) F.length c3) ∧ w'.cell? ⟨gk, k, none⟩ = some (.int .i64 (y : Int))) (fun _ => false) (by kernel_rfl) ?_
        refine tame0 (k := 0) ?_ rfl (by kernel_rfl) (by kernel_rfl) (by kernel_rfl) (fun _ _ _ h => h) (by kernel_rfl) (fun v => ?_) ?_
        rotate_left
        · (go_simp; all_goals rfl)
        simp only [Act.put, List.setIfInBounds_toArray]
        refine tame0 (k := 1) ?_ rfl (by kernel_rfl) (by kernel_rfl) (by kernel_rfl) (fun _ _ _ h => h) (by kernel_rfl) (fun v => ?_) ?_
        rotate_left
        · (go_simp; all_goals rfl)
        simp only [Act.put]
        refine tame (k := 2) ?_ rfl (by kernel_rfl) (by kernel_rfl) (by kernel_rfl) (by kernel_rfl) (fun _ _ _ h => h) (by kernel_rfl) hS0 (fun v hv => ?_) ?_
        rotate_left
        · (obtain ⟨k1, k2, k3, k4⟩ := hv; go_simp; all_goals rfl)
        simp only [Act.put]
        refine tame0 (k := 3) ?_ rfl (by kernel_rfl) (by kernel_rfl) (by kernel_rfl) (fun _ _ _ h => h) (by kernel_rfl) (fun v => ?_) ?_
        rotate_left
        · (go_simp; all_goals rfl)
        simp only [Act.put]
        refine tame0 (k := 4) ?_ rfl (by kernel_rfl) (by kernel_rfl) (by kernel_rfl) (fun _ _ _ h => h) (by kernel_rfl) (fun v => ?_) ?_
        rotate_left
        · (go_simp; all_goals rfl)
        simp only [Act.put]
        refine tame0 (k := 5) ?_ rfl (by kernel_rfl) (by kernel_rfl) (by kernel_rfl) (fun _ _ _ h => h) (by kernel_rfl) (fun v => ?_) ?_
        rotate_left
        · (go_simp; all_goals rfl)
        simp only [Act.put]
        refine tame0 (k := 6) ?_ rfl (by kernel_rfl) (by kernel_rfl) (by kernel_rfl) (fun _ _ _ h => h) (by kernel_rfl) (fun v => ?_) ?_
        rotate_left
        · (go_simp; all_goals rfl)
        simp only [Act.put]
        refine tame0 (k := 7) ?_ rfl (by kernel_rfl) (by kernel_rfl) (by kernel_rfl) (fun _ _ _ h => h) (by kernel_rfl) (fun v => ?_) ?_
        rotate_left
        · (go_simp; all_goals rfl)
        simp only [Act.put]
        refine tame0 (k := 8) ?_ rfl (by kernel_rfl) (by kernel_rfl) (by kernel_rfl) (fun _ _ _ h => h) (by kernel_rfl) (fun v => ?_) ?_
        rotate_left
        · (go_simp; all_goals rfl)
        simp only [Act.put]
        refine tame (k := 9) ?_ rfl (by kernel_rfl) (by kernel_rfl) (by kernel_rfl) (by kernel_rfl) (fun _ _ _ h => h) (by kernel_rfl) hS0 (fun v hv => ?_) ?_
        rotate_left
        · (obtain ⟨k1, k2, k3, k4⟩ := hv; go_simp; all_goals rfl)
        simp only [Act.put]
        refine tame_one (k := 10) (by kernel_rfl) rfl (by kernel_rfl) ?_
        go_simp
        refine (ih y _ (by have := HN.out; omega) hyl (h.below (Below.drew HB) (Nat.le_refl _))).mono ?_
        rintro e w5 ⟨rfl, b5⟩
        have H5 := bUp hd b5 (Nat.le_refl _)
        have hS5 := Lib.hid (SK.out _ H5)
        refine ⟨by first | exact hS5.out, ?_⟩
        refine tame_one (k := 11) (by kernel_rfl) rfl (by kernel_rfl) ?_
        go_simp
        refine ⟨by first | exact hS5.out, ?_⟩
        refine tame_one (k := 12) (by kernel_rfl) rfl (by kernel_rfl) ?_
        go_simp
        refine ⟨by first | exact hS5.out, ?_⟩
        rw [← HOS.out]
        refine tame_one (k := 13) (by kernel_rfl) rfl (by kernel_rfl) ?_
        go_simp
        refine ⟨by first | exact hS5.out, ?_⟩
        refine tame_end (by kernel_rfl) ?_
        clear hS5
        go_wp2_with fail
        go_roundw
        case rel => exact ⟨k + 1, hlt, by go_num, rfl, okk.below H5, bx.below H5, HB.trans (H5.mono HB.size)⟩
        case measure => simp [intOf] <;> omega
      · have hkn : k = (kids P (x : Int)).length := by omega
        subst hkn
        have e2 : IntKind.i64.wrap (l * nth U x) = l * nth U x := IntWalk.i64_in _ (by omega)
        cases he : endB P x
        · have HV := Lib.hid (lV_in (F := F) (U := U) (a := a) (l := l) hpar hx he)
          have k0 := kids_len0 he
          clear he
          go_wp2_with fail
          refine (l1Most_is _ _ _ HV.out.symm _).mono ?_
          rintro e w' ⟨rfl, rfl⟩
          go_wp2
          go_ret
          exact ⟨rfl, HB⟩
        · have HV := Lib.hid (lV_end (F := F) (U := U) (a := a) (l := l) hpar hx he)
          have k0 := kids_len0 he
          clear he
          go_wp2
          go_ret
          exact ⟨by rw [HV.out] <;> rfl, HB⟩

set_option maxRecDepth 20000 in
theorem specLv_c (A1 : Option Addr) (P : List Int) (c1 : Nat) (A2 : Option Addr) (W : List Int) (c2 : Nat) (A3 : Option Addr) (F : List Int) (c3 : Nat) (a b l : Int) (w : World) (h : RdM w A1 P A2 W A3 F) :
    Calls Try.prog 20 #[mkV A1 P.length c1 A2 W.length c2 A3 F.length c3, .int .i64 a, .int .i64 b, .int .i64 l] w (Quietly w (.tuple #[.int .i64 (lvV P W F a b l), .bool (lvB P W F a b l)])) := by
  have HB1 : Below w.heap.size w (w.alloc (.cells #[.slice A1 P.length c1, .slice A2 W.length c2, .slice A3 F.length c3] 28)) := (Below.refl _ _).alloc (Nat.le_refl _) _
  have bx := Bx3.new w (.slice A1 P.length c1) (.slice A2 W.length c2) (.slice A3 F.length c3) 28
  cases hq : (armB P W F && discB a b)
  · have HQ := Lib.hid (lvB_1 (l := l) hq)
    rw [lvV_no HQ.out, HQ.out]
    go_enter Try.func20, Try.ntmps20
    go_wp2_with fail
    refine (l8One_is _ _ _ _ _ _ _ _ _ _ _ _ hq _ (h.below HB1 (Nat.le_refl _))).mono ?_
    rintro e w2 ⟨rfl, b2⟩
    go_wp2
    go_ret2
    exact ⟨rfl, bUp HB1 b2 HB1.size⟩
  · cases hi : inB l (-99) 99
    · have HQ := Lib.hid (lvB_2 (P := P) (W := W) (F := F) (a := a) (b := b) hi)
      rw [lvV_no HQ.out, HQ.out]
      go_enter Try.func20, Try.ntmps20
      go_wp2_with fail
      refine (l8One_is _ _ _ _ _ _ _ _ _ _ _ _ hq _ (h.below HB1 (Nat.le_refl _))).mono ?_
      rintro e w2 ⟨rfl, b2⟩
      go_wp2_with fail
      refine (l1In_is _ _ _ _ hi _).mono ?_
      rintro e w3 ⟨rfl, rfl⟩
      go_wp2
      go_ret2
      exact ⟨rfl, bUp HB1 b2 HB1.size⟩
    · have HQ := Lib.hid (lvB_3 hq hi)
      have hk := lvB_iff.1 HQ.out
      rw [lvV_yes HQ.out, HQ.out]
      go_enter Try.func20, Try.ntmps20
      go_wp2_with fail
      refine (l8One_is _ _ _ _ _ _ _ _ _ _ _ _ hq _ (h.below HB1 (Nat.le_refl _))).mono ?_
      rintro e w2 ⟨rfl, b2⟩
      have HB2 := bUp HB1 b2 HB1.size
      obtain ⟨f0, f1, f2, fz⟩ := bx.below b2
      clear bx b2 HB1
      go_wp2_with fail
      refine (l1In_is _ _ _ _ hi _).mono ?_
      rintro e w3 ⟨rfl, rfl⟩
      go_wp2_with fail
      refine (l8Leave_c A1 P c1 A2 W c2 A3 F c3 a b l hk P.length 0 _ (by omega) (by have := hk.arm.tree.n1; omega) (h.below HB2 (Nat.le_refl _))).mono ?_
      rintro e w4 ⟨rfl, b4⟩
      go_wp2
      go_ret2
      exact ⟨rfl, bUp HB2 b4 HB2.size⟩

/-- The heights added so far. -/
def plS (P : List Int) : Nat → Int
  | 0 => 0
  | _ => hgt P
set_option maxRecDepth 20000 in
set_option maxHeartbeats 1000000 in
theorem areArms1_is (g : Nat) (A1 : Option Addr) (P : List Int) (c1 : Nat) (A2 : Option Addr) (W : List Int) (c2 : Nat) (A3 : Option Addr) (F : List Int) (c3 : Nat) (a b : Int) (q : Bool) (hq : (armB P W F && discB a b) = q) (w : World) (h : RdM w A1 P A2 W A3 F) (hx : Bx3 w g (.slice A1 P.length c1) (.slice A2 W.length c2) (.slice A3 F.length c3)) :
    Calls Try.prog 71 #[.slice (some ⟨g, 0, none⟩) 1 1, .int .i64 a, .int .i64 b] w (Quietly w (.bool q)) := by
  cases hd : discB a b
  · rw [hd, Bool.and_false] at hq
    subst hq
    go_enter Try.func71, Try.ntmps71
    go_wp2_with fail
    refine (isDiscount_is a b _ hd _).mono ?_
    rintro e w2 ⟨rfl, rfl⟩
    go_wp2
    go_ret
    exact ⟨rfl, Below.refl _ _⟩
  · rw [hd, Bool.and_true] at hq
    go_enter Try.func71, Try.ntmps71
    go_wp2_with fail
    refine (isDiscount_is a b _ hd _).mono ?_
    rintro e w2 ⟨rfl, rfl⟩
    go_wp2_with fail
    go_loopw [7, 21] (fun p i wr => ∃ k : Nat, k ≤ 1 ∧ i = .int .i64 (k : Int) ∧ p = .int .i64 (plS P k) ∧ (k = 1 → ArmOk P W F) ∧ Bx3 wr g (.slice A1 P.length c1) (.slice A2 W.length c2) (.slice A3 F.length c3) ∧ Below w.heap.size w wr) (fun _ i _ => 1 - (intOf i).toNat)
    case atStart => exact ⟨0, by omega, rfl, rfl, (fun h => by cases h), hx, Below.refl _ _⟩
    case round =>
      clear hx
      obtain ⟨v, rfl⟩ : ∃ v : World, v = wr := ⟨_, rfl⟩
      obtain ⟨k, hk1, rfl, rfl, hok, bx, HB⟩ := hrel
      rcases Nat.eq_or_lt_of_le hk1 with rfl | hlt
      · have ho := hok rfl
        have h4 := ho.h4
        have h0 := hgt_bd P
        have HQ := Lib.hid (armB_iff.2 ho)
        clear hok ho
        rw [HQ.out] at hq
        subst hq
        have hp : plS P 1 = hgt P := rfl
        rw [hp]
        have i8 : hgt P ≤ 8 := by omega
        go_wp2
        go_ret
        exact ⟨rfl, HB⟩
      · obtain rfl : k = 0 := by omega
        clear hok
        obtain ⟨f0, f1, f2, fz⟩ := id bx
        cases ha : armB P W F
        · obtain rfl : q = false := by rw [← hq, ha]
          go_wp2_with fail
          have HB1 : Below w.heap.size w (v.alloc (.cells #[.slice A1 P.length c1, .slice A2 W.length c2, .slice A3 F.length c3] 28)) := HB.alloc HB.size _
          refine (implArm_is _ _ _ _ _ _ _ _ _ _ ha _ (h.below HB1 (Nat.le_refl _))).mono ?_
          rintro e w5 ⟨rfl, b5⟩
          go_wp2
          go_ret
          exact ⟨rfl, bUp HB1 b5 HB1.size⟩
        · have hok := armB_iff.1 ha
          have hpar := hok.tree.par
          have hn1 := hok.tree.n1
          have hn2 := hok.tree.n2
          have h4 := hok.h4
          have h0 := hgt_bd P
          have HB1 : Below w.heap.size w (v.alloc (.cells #[.slice A1 P.length c1, .slice A2 W.length c2, .slice A3 F.length c3] 28)) := HB.alloc HB.size _
          have bx1 := bx.alloc (.cells #[.slice A1 P.length c1, .slice A2 W.length c2, .slice A3 F.length c3] 28)
          have by1 := Bx3.new v (.slice A1 P.length c1) (.slice A2 W.length c2) (.slice A3 F.length c3) 28
          have p0 : plS P 0 = 0 := rfl
          have e1 : IntKind.i64.wrap (0 + hgt P) = 0 + hgt P := IntWalk.i64_in _ (by omega)
          rw [p0]
          go_wp2_with fail
          generalize v.alloc (.cells #[.slice A1 P.length c1, .slice A2 W.length c2, .slice A3 F.length c3] 28) = u at *
          clear f0 f1 f2 fz bx p0
          refine (implArm_is _ _ _ _ _ _ _ _ _ _ ha _ (h.below HB1 (Nat.le_refl _))).mono ?_
          rintro e w5 ⟨rfl, b5⟩
          have HB5 := bUp HB1 b5 HB1.size
          have bx5 := bx1.below b5
          obtain ⟨f0, f1, f2, fz⟩ := by1.below b5
          clear bx1 by1 b5 HB1
          go_wp2_with fail
          refine (height_c A1 P c1 A2 W.length c2 A3 F.length c3 _ (h.below HB5 (Nat.le_refl _)).r1 hpar hn1 hn2).mono ?_
          rintro e w6 ⟨rfl, b6⟩
          go_wp2_with fail
          go_roundw
          case rel => exact ⟨1, by omega, by go_num, rfl, fun _ => hok, bx5.below b6, bUp HB5 b6 HB5.size⟩
          case measure => simp [intOf] <;> omega

/-- The row while it is filled in from its end on. -/
def dnL (zs vs : List Int) (k : Nat) : List Int := zs.take k ++ vs.drop k
theorem dnL_length {zs vs : List Int} (h : zs.length = vs.length) (k : Nat) : (dnL zs vs k).length = vs.length := by
  unfold dnL
  rw [List.length_append, List.length_take, List.length_drop]
  omega
theorem dnL_all {zs vs : List Int} (h : zs.length = vs.length) : dnL zs vs vs.length = zs := by
  unfold dnL
  rw [List.take_of_length_le (by omega), List.drop_of_length_le (by omega), List.append_nil]
theorem dnL_zero (zs vs : List Int) : dnL zs vs 0 = vs := by simp [dnL]
theorem dnL_nth {zs vs : List Int} (h : zs.length = vs.length) {k y : Nat} (hk : k ≤ y) (hy : y < vs.length) : nth (dnL zs vs k) y = nth vs y := by
  unfold dnL nth
  rw [List.getD_eq_getElem?_getD, List.getD_eq_getElem?_getD, List.getElem?_append_right (by simp; omega), List.getElem?_drop]
  congr 2
  simp
  omega
theorem dnL_set {zs vs : List Int} (h : zs.length = vs.length) {x : Nat} (hx : x < vs.length) : (dnL zs vs (x + 1)).set x (nth vs x) = dnL zs vs x := by
  apply ext_nth
  · rw [List.length_set, dnL_length h, dnL_length h]
  · intro i hi
    rw [List.length_set, dnL_length h] at hi
    rcases Nat.lt_trichotomy i x with hlt | rfl | hgt
    · rw [nth_set_ne (by omega)]
      unfold dnL nth
      rw [List.getD_eq_getElem?_getD, List.getD_eq_getElem?_getD, List.getElem?_append_left (by simp; omega), List.getElem?_append_left (by simp; omega), List.getElem?_take, List.getElem?_take, if_pos (by omega), if_pos hlt]
    · rw [nth_set_self (by rw [dnL_length h]; exact hx), dnL_nth h (Nat.le_refl _) hx]
    · rw [nth_set_ne (by omega), dnL_nth h (by omega) hi, dnL_nth h (by omega) hi]
def valL (P F U : List Int) (a l : Int) : List Int := (List.range P.length).map (lV P F U a l)
theorem valL_length (P F U : List Int) (a l : Int) : (valL P F U a l).length = P.length := by simp [valL]
theorem valL_nth {P F U : List Int} {a l : Int} {x : Nat} (h : x < P.length) : nth (valL P F U a l) x = lV P F U a l x := by simp [valL, nth, h]
theorem kids_no {P : List Int} {x : Nat} (h : endB P x = true) : (kids P (x : Int)).length = 0 := by rw [(kids_nil x).2 h]; rfl
theorem kids_some {P : List Int} {x : Nat} (h : endB P x = false) : 0 < (kids P (x : Int)).length := by
  rcases Nat.eq_zero_or_pos (kids P (x : Int)).length with h0 | h0
  · have := (kids_nil x).1 (List.length_eq_zero_iff.1 h0)
    rw [h] at this
    cases this
  · exact h0
theorem mx_if (p q : Int) : (if p < q then q else p) = mxI p q := by
  unfold mxI
  split <;> split <;> omega

set_option maxRecDepth 20000 in
set_option maxHeartbeats 4000000 in
theorem implLv_c (A1 : Option Addr) (P : List Int) (c1 : Nat) (A2 : Option Addr) (W : List Int) (c2 : Nat) (A3 : Option Addr) (F : List Int) (c3 : Nat) (a b l : Int) (w : World) (h : RdM w A1 P A2 W A3 F) :
    Calls Try.prog 19 #[mkV A1 P.length c1 A2 W.length c2 A3 F.length c3, .int .i64 a, .int .i64 b, .int .i64 l] w (Quietly w (.tuple #[.int .i64 (lvV P W F a b l), .bool (lvB P W F a b l)])) := by
  have HB1 : Below w.heap.size w ((w.alloc (.cells #[.slice A1 P.length c1, .slice A2 W.length c2, .slice A3 F.length c3] 28)).alloc (.cells #[.slice A1 P.length c1, .slice A2 W.length c2, .slice A3 F.length c3] 28)) := ((Below.refl _ _).alloc (Nat.le_refl _) _).alloc (by simp) _
  have bx := (Bx3.new w (.slice A1 P.length c1) (.slice A2 W.length c2) (.slice A3 F.length c3) 28).alloc (.cells #[.slice A1 P.length c1, .slice A2 W.length c2, .slice A3 F.length c3] 28)
  have by_ := Bx3.new (w.alloc (.cells #[.slice A1 P.length c1, .slice A2 W.length c2, .slice A3 F.length c3] 28)) (.slice A1 P.length c1) (.slice A2 W.length c2) (.slice A3 F.length c3) 28
  rw [World.size_alloc] at by_
  cases hq : (armB P W F && discB a b)
  · have HQ := Lib.hid (lvB_1 (l := l) hq)
    rw [lvV_no HQ.out, HQ.out]
    go_enter Try.func19, Try.ntmps19
    go_wp2_with fail
    generalize (w.alloc (.cells #[.slice A1 P.length c1, .slice A2 W.length c2, .slice A3 F.length c3] 28)).alloc (.cells #[.slice A1 P.length c1, .slice A2 W.length c2, .slice A3 F.length c3] 28) = v at *
    refine (areArms1_is _ _ _ _ _ _ _ _ _ _ _ _ _ hq _ (h.below HB1 (Nat.le_refl _)) by_).mono ?_
    rintro e w2 ⟨rfl, b2⟩
    go_wp2
    go_ret2
    exact ⟨rfl, bUp HB1 b2 HB1.size⟩
  · cases hi : inB l (-99) 99
    · have HQ := Lib.hid (lvB_2 (P := P) (W := W) (F := F) (a := a) (b := b) hi)
      rw [lvV_no HQ.out, HQ.out]
      go_enter Try.func19, Try.ntmps19
      go_wp2_with fail
      generalize (w.alloc (.cells #[.slice A1 P.length c1, .slice A2 W.length c2, .slice A3 F.length c3] 28)).alloc (.cells #[.slice A1 P.length c1, .slice A2 W.length c2, .slice A3 F.length c3] 28) = v at *
      refine (areArms1_is _ _ _ _ _ _ _ _ _ _ _ _ _ hq _ (h.below HB1 (Nat.le_refl _)) by_).mono ?_
      rintro e w2 ⟨rfl, b2⟩
      go_wp2_with fail
      refine (within_is _ _ _ _ hi _).mono ?_
      rintro e w3 ⟨rfl, rfl⟩
      go_wp2
      go_ret2
      exact ⟨rfl, bUp HB1 b2 HB1.size⟩
    · have HQ := Lib.hid (lvB_3 hq hi)
      have hk := lvB_iff.1 HQ.out
      rw [lvV_yes HQ.out, HQ.out]
      go_enter Try.func19, Try.ntmps19
      go_wp2_with fail
      generalize (w.alloc (.cells #[.slice A1 P.length c1, .slice A2 W.length c2, .slice A3 F.length c3] 28)).alloc (.cells #[.slice A1 P.length c1, .slice A2 W.length c2, .slice A3 F.length c3] 28) = v at *
      refine (areArms1_is _ _ _ _ _ _ _ _ _ _ _ _ _ hq _ (h.below HB1 (Nat.le_refl _)) by_).mono ?_
      rintro e w2 ⟨rfl, b2⟩
      have HB2 := bUp HB1 b2 HB1.size
      have bx2 := bx.below b2
      have hok := hk.arm
      have hn1 := hok.tree.n1
      have hn2 := hok.tree.n2
      have hn9 := hok.n9
      have hpar := hok.tree.par
      have HFL := Lib.hid hok.len
      have hb0 : 0 ≤ b := by have := hk.a1; have := hk.ab; omega
      have hb4 := hk.b4
      clear bx by_ b2 HB1
      go_wp2_with fail
      refine (within_is _ _ _ _ hi _).mono ?_
      rintro e w3 ⟨rfl, rfl⟩
      go_upto_region 3 with fail
      obtain ⟨f0, f1, f2, fz⟩ := id bx2
      have hd : Below w2.heap.size w2 w2.drew := Below.drew (Below.refl _ _)
      have SK : Hid (∀ w', Below w2.heap.size w2 w' → w'.cell? ⟨w.heap.size, 0, none⟩ = some (.slice A1 P.length c1) ∧ w'.cell? ⟨w.heap.size, 1, none⟩ = some (.slice A2 W.length c2) ∧ w'.cell? ⟨w.heap.size, 2, none⟩ = some (.slice A3 F.length c3)) :=
        Lib.hid fun w' HV => ⟨(HV.cell (p := ⟨w.heap.size, 0, none⟩) fz).trans f0, (HV.cell (p := ⟨w.heap.size, 1, none⟩) fz).trans f1, (HV.cell (p := ⟨w.heap.size, 2, none⟩) fz).trans f2⟩
      clear f0 f1 f2
      have hS0 := SK.out w2.drew hd
      have h' := h.below (Below.drew HB2) (Nat.le_refl _)
      refine tamed_region (S := fun w' => w'.cell? ⟨w.heap.size, 0, none⟩ = some (.slice A1 P.length c1) ∧ w'.cell? ⟨w.heap.size, 1, none⟩ = some (.slice A2 W.length c2) ∧ w'.cell? ⟨w.heap.size, 2, none⟩ = some (.slice A3 F.length c3)) (fun _ => false) (by kernel_rfl) ?_
      refine tame0 (k := 0) ?_ rfl (by kernel_rfl) (by kernel_rfl) (by kernel_rfl) (fun _ _ _ h => h) (by kernel_rfl) (fun v => ?_) ?_
      rotate_left
      · (go_simp; all_goals rfl)
      simp only [Act.put, List.setIfInBounds_toArray]
      refine tame (k := 1) ?_ rfl (by kernel_rfl) (by kernel_rfl) (by kernel_rfl) (by kernel_rfl) (fun _ _ _ h => h) (by kernel_rfl) hS0 (fun v hv => ?_) ?_
      rotate_left
      · (obtain ⟨k1, k2, k3⟩ := hv; go_simp; all_goals rfl)
      simp only [Act.put]
      refine tame0 (k := 3) ?_ rfl (by kernel_rfl) (by kernel_rfl) (by kernel_rfl) (fun _ _ _ h => h) (by kernel_rfl) (fun v => ?_) ?_
      rotate_left
      · (go_simp; all_goals rfl)
      simp only [Act.put]
      refine tame (k := 4) ?_ rfl (by kernel_rfl) (by kernel_rfl) (by kernel_rfl) (by kernel_rfl) (fun _ _ _ h => h) (by kernel_rfl) hS0 (fun v hv => ?_) ?_
      rotate_left
      · (obtain ⟨k1, k2, k3⟩ := hv; go_simp; all_goals rfl)
      simp only [Act.put]
      refine tame (k := 6) ?_ rfl (by kernel_rfl) (by kernel_rfl) (by kernel_rfl) (by kernel_rfl) (fun _ _ _ h => h) (by kernel_rfl) hS0 (fun v hv => ?_) ?_
      rotate_left
      · (obtain ⟨k1, k2, k3⟩ := hv; go_simp; all_goals rfl)
      simp only [Act.put]
      refine tame_one (k := 2) (by kernel_rfl) rfl (by kernel_rfl) ?_
      go_simp
      refine (sums_c A1 P c1 A2 W c2 _ h'.r1 h'.r2 hok.tree hn1 hn2).mono ?_
      rintro e w5 ⟨As, cs, rfl, os, b5⟩
      have H5 := bUp hd b5 (Nat.le_refl _)
      refine ⟨by first | exact SK.out _ H5, ?_⟩
      refine tame_one (k := 5) (by kernel_rfl) rfl (by kernel_rfl) ?_
      go_simp
      refine (depthsN_c A1 P c1 A2 W.length c2 _ (h'.below b5 (Nat.le_refl _)).r1 hpar hn1 hn2).mono ?_
      rintro e w6 ⟨Ad, cd, rfl, od, b6⟩
      have H6 := bUp H5 b6 H5.size
      refine ⟨by first | exact SK.out _ H6, ?_⟩
      refine tame_one (k := 7) (by kernel_rfl) rfl (by kernel_rfl) ?_
      go_simp
      refine (height_c A1 P c1 A2 W.length c2 A3 F.length c3 _ (h'.below (bUp b5 b6 b5.size) (Nat.le_refl _)).r1 hpar hn1 hn2).mono ?_
      rintro e w7 ⟨rfl, b7⟩
      have H7 := bUp H6 b7 H6.size
      have HS7 := Lib.hid (SK.out _ H7)
      refine ⟨by first | exact HS7.out, ?_⟩
      have os7 := ((os.below b6).below b7).mono (B' := w.heap.size + 1) fz
      have od7 := (od.below b7).mono (B' := w.heap.size + 1) (by have := H5.size; omega)
      have bx7 := bx2.below H7
      have HB7 := HB2.trans (H7.mono HB2.size)
      clear os od b5 b6 b7 H5 H6 H7 hS0 h' hd SK fz bx2 HB2
      refine tame_one (k := 8) (by kernel_rfl) rfl (by kernel_rfl) ?_
      go_simp
      refine ⟨by first | exact HS7.out, ?_⟩
      refine tame_one (k := 9) (by kernel_rfl) rfl (by kernel_rfl) ?_
      go_simp
      refine ⟨by first | exact HS7.out, ?_⟩
      refine tame_one (k := 10) (by kernel_rfl) rfl (by kernel_rfl) ?_
      go_simp
      refine ⟨by first | exact HS7.out, ?_⟩
      refine tame_end (by kernel_rfl) ?_
      clear HS7
      have fz := bx7.2.2.2
      go_wp2_with (at_make; refine wp_make_intsH _ w7.heap.size rfl rfl _ _ rfl _ _ _ _ P.length rfl rfl rfl rfl (by omega) ?_; intro w8 oa b8)
      have HB8 := bUp HB7 b8 HB7.size
      have os8 := os7.below b8
      have od8 := od7.below b8
      have bx8 := bx7.below b8
      have nas : As = none ∨ blk As ≠ some w7.heap.size := .inr fun e => by have := os7.ltk _ e; omega
      have nad : Ad = none ∨ blk Ad ≠ some w7.heap.size := .inr fun e => by have := od7.ltk _ e; omega
      have HVL := Lib.hid (valL_length P F (unitL P W b) a l)
      have HZL := Lib.hid (show (List.replicate P.length (0 : Int)).length = (valL P F (unitL P W b) a l).length by rw [List.length_replicate, valL_length])
      have oa8 : Own w8 (w.heap.size + 1) (some ⟨w7.heap.size, 0, none⟩) P.length (dnL (List.replicate P.length 0) (valL P F (unitL P W b) a l) P.length) := by
        have e := dnL_all HZL.out
        rw [HVL.out] at e
        rw [e]
        exact oa.mono (by omega)
      have hub := hk.ub
      have hlu := hk.lu
      have hfu := hk.fu
      have HUX : Hid (∀ x, x < P.length → nth (gath P W) x * pw b (hgt P - nth (dep P) x).toNat = nth (unitL P W b) x) := Lib.hid fun x hx => (unitL_nth hx).symm
      clear oa b8 os7 od7 bx7 HB7
      generalize hU : unitL P W b = U at *
      go_loopw [14] (fun i wr => ∃ (k : Nat) (j : Int), k ≤ P.length ∧ j + 1 = (k : Int) ∧ i = .int .i64 j ∧ Own wr (w.heap.size + 1) (some ⟨w7.heap.size, 0, none⟩) P.length (dnL (List.replicate P.length 0) (valL P F U a l) k) ∧
          Own wr (w.heap.size + 1) As cs (gath P W) ∧ Own wr (w.heap.size + 1) Ad cd (dep P) ∧ Bx3 wr w.heap.size (.slice A1 P.length c1) (.slice A2 W.length c2) (.slice A3 F.length c3) ∧ Below w.heap.size w wr) (fun i _ => (intOf i + 1).toNat)
      case atStart => exact ⟨P.length, (P.length : Int) - 1, Nat.le_refl _, by omega, rfl, oa8, os8, od8, bx8, HB8⟩
      case round =>
        clear oa8 os8 od8 bx8 HB8
        obtain ⟨k, j, hkl, hj, rfl, oa, os, od, bx, HB⟩ := hrel
        obtain ⟨v, rfl⟩ : ∃ v : World, v = wr := ⟨_, rfl⟩
        rcases k with _ | x
        · obtain rfl : j = -1 := by omega
          have HDL := Lib.hid (show (dnL (List.replicate P.length 0) (valL P F U a l) 0).length = P.length by rw [dnL_zero, HVL.out])
          have q0 := oa.cellN (k := 0) (by rw [HDL.out]; omega)
          rw [dnL_zero, valL_nth (by omega)] at q0
          have i9 : (0 : Int) < (P.length : Int) := by omega
          go_wp2_with fail
          go_ret2
          exact ⟨rfl, HB⟩
        · obtain rfl : j = (x : Int) := by omega
          have hx : x < P.length := by omega
          have HGL := Lib.hid (show (gath P W).length = P.length by rw [gath_length, hok.tree.len])
          have HDPL := Lib.hid (dep_length (P := P) hn1)
          have HAL := Lib.hid (show (dnL (List.replicate P.length 0) (valL P F U a l) (x + 1)).length = P.length by rw [dnL_length HZL.out, HVL.out])
          obtain ⟨gs, rfl, hgs, hgs2⟩ := os.form (by rw [HGL.out]; omega)
          obtain ⟨gd, rfl, hgd, hgd2⟩ := od.form (by rw [HDPL.out]; omega)
          have q1 := os.cellN (k := x) (by rw [HGL.out]; exact hx)
          have q2 := od.cellN (k := x) (by rw [HDPL.out]; exact hx)
          have i0 : (0 : Int) ≤ (x : Int) := by omega
          have i1 : (x : Int) < (P.length : Int) := by omega
          have hj2 := hj
          clear hj
          have hbx := hgt_dep hok hx
          have hgb := hgt_bd P
          have hdb := dep_bd P x
          have e1 : IntKind.i64.wrap (hgt P - nth (dep P) x) = hgt P - nth (dep P) x := IntWalk.i64_in _ (by omega)
          have hux := hub x
          have hlux := hlu x
          have hfux := hfu x
          have e2 : IntKind.i64.wrap (nth (gath P W) x * pw b (hgt P - nth (dep P) x).toNat) = nth (gath P W) x * pw b (hgt P - nth (dep P) x).toNat := IntWalk.i64_in _ (by rw [HUX.out x hx]; omega)
          go_upto_region 8 with fail
          have hS0 : v.drew.cell? ⟨gs, x, none⟩ = some (.int .i64 (nth (gath P W) x)) ∧ v.drew.cell? ⟨gd, x, none⟩ = some (.int .i64 (nth (dep P) x)) := ⟨q1, q2⟩
          have HS := Lib.hid hS0
          refine tamed_region (S := fun w' => w'.cell? ⟨gs, x, none⟩ = some (.int .i64 (nth (gath P W) x)) ∧ w'.cell? ⟨gd, x, none⟩ = some (.int .i64 (nth (dep P) x))) (fun _ => false) (by kernel_rfl) ?_
          refine tame0 (k := 0) ?_ rfl (by kernel_rfl) (by kernel_rfl) (by kernel_rfl) (fun _ _ _ h => h) (by kernel_rfl) (fun v => ?_) ?_
          rotate_left
          · (go_simp; all_goals rfl)
          simp only [Act.put, List.setIfInBounds_toArray]
          refine tame0 (k := 1) ?_ rfl (by kernel_rfl) (by kernel_rfl) (by kernel_rfl) (fun _ _ _ h => h) (by kernel_rfl) (fun v => ?_) ?_
          rotate_left
          · (go_simp; all_goals rfl)
          simp only [Act.put]
          refine tame0 (k := 2) ?_ rfl (by kernel_rfl) (by kernel_rfl) (by kernel_rfl) (fun _ _ _ h => h) (by kernel_rfl) (fun v => ?_) ?_
          rotate_left
          · (go_simp; all_goals rfl)
          simp only [Act.put]
          refine tame (k := 3) ?_ rfl (by kernel_rfl) (by kernel_rfl) (by kernel_rfl) (by kernel_rfl) (fun _ _ _ h => h) (by kernel_rfl) hS0 (fun v hv => ?_) ?_
          rotate_left
          · (obtain ⟨k1, k2⟩ := hv; go_simp; all_goals rfl)
          simp only [Act.put]
          refine tame0 (k := 4) ?_ rfl (by kernel_rfl) (by kernel_rfl) (by kernel_rfl) (fun _ _ _ h => h) (by kernel_rfl) (fun v => ?_) ?_
          rotate_left
          · (go_simp; all_goals rfl)
          simp only [Act.put]
          refine tame0 (k := 5) ?_ rfl (by kernel_rfl) (by kernel_rfl) (by kernel_rfl) (fun _ _ _ h => h) (by kernel_rfl) (fun v => ?_) ?_
          rotate_left
          · (go_simp; all_goals rfl)
          simp only [Act.put]
          refine tame0 (k := 6) ?_ rfl (by kernel_rfl) (by kernel_rfl) (by kernel_rfl) (fun _ _ _ h => h) (by kernel_rfl) (fun v => ?_) ?_
          rotate_left
          · (go_simp; all_goals rfl)
          simp only [Act.put]
          refine tame0 (k := 7) ?_ rfl (by kernel_rfl) (by kernel_rfl) (by kernel_rfl) (fun _ _ _ h => h) (by kernel_rfl) (fun v => ?_) ?_
          rotate_left
          · (go_simp; all_goals rfl)
          simp only [Act.put]
          refine tame0 (k := 8) ?_ rfl (by kernel_rfl) (by kernel_rfl) (by kernel_rfl) (fun _ _ _ h => h) (by kernel_rfl) (fun v => ?_) ?_
          rotate_left
          · (go_simp; all_goals rfl)
          simp only [Act.put]
          refine tame (k := 9) ?_ rfl (by kernel_rfl) (by kernel_rfl) (by kernel_rfl) (by kernel_rfl) (fun _ _ _ h => h) (by kernel_rfl) hS0 (fun v hv => ?_) ?_
          rotate_left
          · (obtain ⟨k1, k2⟩ := hv; go_simp; all_goals rfl)
          simp only [Act.put]
          refine tame0 (k := 10) ?_ rfl (by kernel_rfl) (by kernel_rfl) (by kernel_rfl) (fun _ _ _ h => h) (by kernel_rfl) (fun v => ?_) ?_
          rotate_left
          · (go_simp; all_goals rfl)
          simp only [Act.put]
          clear hS0 q1 q2
          refine tame_one (k := 11) (by kernel_rfl) rfl (by kernel_rfl) ?_
          go_simp
          refine (power_s b (hgt P - nth (dep P) x) _ hb0 hb4 hbx.1 hbx.2 rfl _).mono ?_
          rintro e w6 ⟨rfl, rfl⟩
          refine ⟨by first | exact HS.out, ?_⟩
          refine tame_one (k := 12) (by kernel_rfl) rfl (by kernel_rfl) ?_
          go_simp
          refine ⟨by first | exact HS.out, ?_⟩
          rw [HUX.out x hx]
          refine tame_one (k := 13) (by kernel_rfl) rfl (by kernel_rfl) ?_
          go_simp
          refine ⟨by first | exact HS.out, ?_⟩
          refine tame_end (by kernel_rfl) ?_
          clear HS
          have oa := oa.drew
          have os := os.drew
          have od := od.drew
          have bx := bx.drewN 1
          have HB := HB.drew
          change Bx3 v.drew _ _ _ _ at bx
          generalize v.drew = u at *
          obtain ⟨f0, f1, f2, fz⟩ := id bx
          obtain ⟨u0, hco⟩ := oa.some_ (k := x) (by rw [HAL.out]; exact hx)
          have hfo := oa.frozen x
          have hst := oa.set x (l * nth U x)
          have oss := os.grown hst.2 nas
          have ods := od.grown hst.2 nad
          have k1 : w.heap.size ≠ w7.heap.size := by omega
          have k2 : w7.heap.size ≠ w.heap.size := Ne.symm k1
          have bxs := bx.grown hst.2 (by omega)
          have HBs := HB.grown hst.2 HB.size (fun j hj => by cases hj; omega)
          have e3 : IntKind.i64.wrap (l * nth U x) = l * nth U x := IntWalk.i64_in _ (by omega)
          go_wp2_with fail
          generalize u.setCell ⟨w7.heap.size, x, none⟩ (.int .i64 (l * nth U x)) = y1 at *
          clear f0 f1 f2 fz hco hfo bx HB oa os od
          refine (children_c A1 P c1 A2 W.length c2 (x : Int) y1 (h.below HBs (Nat.le_refl _)).r1 hn2).mono ?_
          rintro e w9 ⟨Ak, ck, rfl, ok, b9⟩
          have oa9 := hst.1.below b9
          have os9 := oss.below b9
          have od9 := ods.below b9
          have bx9 := bxs.below b9
          have HB9 := bUp HBs b9 HBs.size
          have HSL : Hid (((dnL (List.replicate P.length 0) (valL P F U a l) (x + 1)).set x (l * nth U x)).length = P.length) := Lib.hid (by rw [List.length_set]; exact HAL.out)
          have HKL := Lib.hid (show (kids P (x : Int)).length ≤ 24 from Nat.le_trans (kidTo_len P x P.length) hn2)
          clear hst oss ods bxs b9 HBs
          cases he : endB P x
          · have hkp := kids_some he
            have HV := Lib.hid (lV_in (F := F) (U := U) (a := a) (l := l) hpar hx he)
            have i3 : (0 : Int) < ((kids P (x : Int)).length : Int) := by omega
            clear he
            obtain ⟨f0, f1, f2, fz⟩ := id bx9
            obtain ⟨a3, rfl, q3⟩ := (h.below HB9 (Nat.le_refl _)).r3.intN (k := x) (by rw [HFL.out]; exact hx)
            have i2 : (x : Int) < (F.length : Int) := by rw [HFL.out]; omega
            have e4 : IntKind.i64.wrap (nth F x * nth U x) = nth F x * nth U x := IntWalk.i64_in _ (by omega)
            obtain ⟨gk, rfl, hgk, hgk2⟩ := ok.form (by omega)
            have hkl24 := HKL.out
            go_wp2_with fail
            go_loop [17, 84] (fun s i => ∃ m : Nat, m ≤ (kids P (x : Int)).length ∧ i = .int .i64 (m : Int) ∧ s = .int .i64 (onTo P F U a l x m)) (fun _ i => (kids P (x : Int)).length - (intOf i).toNat)
            case atStart => exact ⟨0, by omega, rfl, by rw [onTo_zero]⟩
            case round =>
              obtain ⟨m, hml, rfl, rfl⟩ := hrel
              by_cases hlt : m < (kids P (x : Int)).length
              · have j1 : (m : Int) < ((kids P (x : Int)).length : Int) := by omega
                have j0 : (0 : Int) ≤ (m : Int) := by omega
                have qk := ok.cellN hlt
                obtain ⟨y, hy, hxy, hyl, hpy⟩ := kid_at hpar hlt
                rw [hy] at qk
                have qy := oa9.cellN (k := y) (by rw [HSL.out]; exact hyl)
                rw [nth_set_ne (by omega), dnL_nth HZL.out (by omega) (by rw [HVL.out]; exact hyl), valL_nth hyl] at qy
                have hbd := hk.abd hyl
                have hob := hk.on_bd (x := x) (k := m) hml
                have hob1 := hk.on_bd (x := x) (k := m + 1) hlt
                have hos := onTo_succ P F U a l x m
                rw [hy, Int.toNat_natCast] at hos
                have HOS := Lib.hid hos
                rw [hos] at hob1
                clear hos hy hpy
                have y0 : (0 : Int) ≤ (y : Int) := by omega
                have y1 : (y : Int) < (P.length : Int) := by omega
                have e5 : IntKind.i64.wrap (a * lV P F U a l y) = a * lV P F U a l y := IntWalk.i64_in _ (by omega)
                have e6 : IntKind.i64.wrap (onTo P F U a l x m + a * lV P F U a l y) = onTo P F U a l x m + a * lV P F U a l y := IntWalk.i64_in _ (by omega)
                go_wp2
                go_round
                case rel => exact ⟨m + 1, hlt, by go_num, by rw [HOS.out]⟩
                case measure => simp [intOf] <;> omega
              · have hmk : m = (kids P (x : Int)).length := by omega
                subst hmk
                have qx := oa9.cellN (k := x) (by rw [HSL.out]; exact hx)
                rw [nth_set_self (by rw [HAL.out]; exact hx)] at qx
                have hfx := oa9.frozen x
                have HM : Hid ((if l * nth U x < onTo P F U a l x (kids P (x : Int)).length then onTo P F U a l x (kids P (x : Int)).length else l * nth U x) = lV P F U a l x) := Lib.hid (by rw [HV.out, mx_if])
                have hst := oa9.set x (lV P F U a l x)
                have e7 : ((dnL (List.replicate P.length 0) (valL P F U a l) (x + 1)).set x (l * nth U x)).set x (lV P F U a l x) = dnL (List.replicate P.length 0) (valL P F U a l) x := by
                  rw [List.set_set, ← valL_nth hx]
                  exact dnL_set HZL.out (by rw [HVL.out]; exact hx)
                rw [e7] at hst
                clear e7
                go_wp2_with fail
                rw [HM.out]
                go_roundw
                case rel => exact ⟨x, (x : Int) - 1, by omega, by omega, rfl, hst.1, os9.grown hst.2 nas, od9.grown hst.2 nad, bx9.grown hst.2 (by omega), HB9.grown hst.2 HB9.size (fun j hj => by cases hj; omega)⟩
                case measure => simp [intOf] <;> omega
          · have hkp := kids_no he
            have HV := Lib.hid (lV_end (F := F) (U := U) (a := a) (l := l) hpar hx he)
            have i3 : ¬ (0 : Int) < ((kids P (x : Int)).length : Int) := by omega
            have HD : Hid ((dnL (List.replicate P.length 0) (valL P F U a l) (x + 1)).set x (l * nth U x) = dnL (List.replicate P.length 0) (valL P F U a l) x) := Lib.hid (by
              have := dnL_set HZL.out (x := x) (by rw [HVL.out]; exact hx)
              rw [valL_nth hx, HV.out] at this
              exact this)
            rw [HD.out] at oa9
            clear he hkp
            go_wp2_with fail
            go_roundw
            case rel => exact ⟨x, (x : Int) - 1, by omega, by omega, by go_num, oa9, os9, od9, bx9, HB9⟩
            case measure => simp [intOf] <;> omega

end Go.Proofs.Ytfobjkdkjlbkfaa
