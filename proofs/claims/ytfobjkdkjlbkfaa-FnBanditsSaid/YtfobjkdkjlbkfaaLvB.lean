/- Sums, depths and units of arms. -/
import Derived.Test.YtfobjkdkjlbkfaaIdxL
import Derived.Test.YtfobjkdkjlbkfaaAfW
import Derived.Test.YtfobjkdkjlbkfaaArA
namespace Go.Proofs.Ytfobjkdkjlbkfaa
open Go.RowKit

theorem isDiscount_c (a b : Int) (w : World) :
    Calls Try.prog 47 #[.int .i64 a, .int .i64 b] w fun e w' => e = .returned (.bool (discB a b)) ∧ w = w' := by
  by_cases h1 : 1 ≤ a <;> by_cases h2 : a < b <;> by_cases h3 : b ≤ 4
  all_goals
    go_enter Try.func47, Try.ntmps47
    go_wp2
    go_ret
    exact ⟨by simp [discB, *], rfl⟩
theorem isDiscount_is (a b : Int) (q : Bool) (h : discB a b = q) (w : World) :
    Calls Try.prog 47 #[.int .i64 a, .int .i64 b] w fun e w' => e = .returned (.bool q) ∧ w = w' := by
  rw [← h]
  exact isDiscount_c a b w
theorem l8Discount_c (a b : Int) (w : World) :
    Calls Try.prog 110 #[.int .i64 a, .int .i64 b] w fun e w' => e = .returned (.bool (discB a b)) ∧ w = w' := by
  by_cases h1 : 1 ≤ a <;> by_cases h2 : a < b <;> by_cases h3 : b ≤ 4
  all_goals
    go_enter Try.func110, Try.ntmps110
    go_wp2
    go_ret
    exact ⟨by simp [discB, *], rfl⟩
theorem l8Discount_is (a b : Int) (q : Bool) (h : discB a b = q) (w : World) :
    Calls Try.prog 110 #[.int .i64 a, .int .i64 b] w fun e w' => e = .returned (.bool q) ∧ w = w' := by
  rw [← h]
  exact l8Discount_c a b w
theorem l6Power_c (a : Int) (k : Nat) (hk : k ≤ 16777216) (h0 : 0 ≤ a) (hb : ∀ j, j ≤ k → pw a j ≤ 1000000000000) (w : World) :
    Calls Try.prog 112 #[.int .i64 a, .int .i64 k] w fun e w' => e = .returned (.int .i64 (pw a k)) ∧ w = w' := by
  go_enter Try.func112, Try.ntmps112
  go_wp2
  go_loop [5, 6] (fun o i => ∃ j : Nat, j ≤ k ∧ i = .int .i64 j ∧ o = .int .i64 (pw a j)) (fun _ i => k - (intOf i).toNat)
  case atStart => exact ⟨0, by omega, rfl, rfl⟩
  case round =>
    obtain ⟨j, h2, rfl, rfl⟩ := hrel
    by_cases hlt : j < k
    · have hp := pw_pos h0 (j + 1)
      have hq := hb (j + 1) (by omega)
      rw [pw_succ] at hp hq
      clear hb
      go_wp2
      go_round
      case rel => exact ⟨j + 1, by omega, by go_num, rfl⟩
      case measure => simp [intOf] <;> omega
    · clear hb
      go_wp2
      go_ret
      have : j = k := by omega
      subst this
      exact ⟨rfl, rfl⟩
/-- Powers of small numbers, with an exponent that is a difference. -/
theorem l6Power_s (b e p : Int) (h0 : 0 ≤ b) (h4 : b ≤ 4) (he0 : 0 ≤ e) (he4 : e ≤ 4) (hp : pw b e.toNat = p) (w : World) :
    Calls Try.prog 112 #[.int .i64 b, .int .i64 e] w fun e w' => e = .returned (.int .i64 p) ∧ w = w' := by
  have C := l6Power_c b e.toNat (by omega) h0 (fun j hj => by have := (pw_four h0 h4 (k := j) (by omega)).2; omega) w
  rw [Int.toNat_of_nonneg he0, hp] at C
  exact C
theorem power_s (b e p : Int) (h0 : 0 ≤ b) (h4 : b ≤ 4) (he0 : 0 ≤ e) (he4 : e ≤ 4) (hp : pw b e.toNat = p) (w : World) :
    Calls Try.prog 54 #[.int .i64 b, .int .i64 e] w fun e w' => e = .returned (.int .i64 p) ∧ w = w' := by
  have C := power_c b e.toNat (by omega) h0 (fun j hj => by have := (pw_four h0 h4 (k := j) (by omega)).2; omega) w
  rw [Int.toNat_of_nonneg he0, hp] at C
  exact C
/-- It answers a row of its own of n numbers. -/
def RowN (w : World) (n : Nat) (xs : List Int) (e : Ending) (w' : World) : Prop :=
  ∃ A c, e = .returned (.slice A n c) ∧ Own w' w.heap.size A c xs ∧ Below w.heap.size w w'
theorem rowN {w w' : World} {xs : List Int} {e : Ending} {n : Nat} (h : Row w xs e w') (hn : xs.length = n) : RowN w n xs e w' := by
  subst hn
  exact h
theorem sums_c (A1 : Option Addr) (P : List Int) (c1 : Nat) (A2 : Option Addr) (W : List Int) (c2 : Nat) (w : World) (h1 : Rd w A1 (ints P)) (h2 : Rd w A2 (ints W)) (h : TreeOk P W) (hn1 : 1 ≤ P.length) (hn : P.length ≤ 24) :
    Calls Try.prog 53 #[trV A1 P.length c1 A2 W.length c2] w (RowN w P.length (gath P W)) := by
  have HB1 : Below w.heap.size w (w.alloc (.cells #[.slice A1 P.length c1, .slice A2 W.length c2] 26)) := (Below.refl _ _).alloc (Nat.le_refl _) _
  have bx := Bx.new w (.slice A1 P.length c1) (.slice A2 W.length c2) 26
  have HL := Lib.hid h.len
  have hpar := h.par
  have hw0 := h.w0
  have HG := Lib.hid (show (gath P W).length = P.length by rw [gath_length, h.len])
  obtain ⟨f0, f1, f2, f3, f4⟩ := id bx
  go_enter Try.func53, Try.ntmps53
  go_wp2_with fail
  refine (gathered_c A1 P c1 A2 W.length c2 A2 W c2 _ (h1.below HB1 (Nat.le_refl _)) (h2.below HB1 (Nat.le_refl _)) hpar hn1 hn HL.out hw0).mono ?_
  rintro e w2 ⟨A, c, rfl, ho, hb2⟩
  have HB2 := bUp HB1 hb2 HB1.size
  rw [HG.out]
  go_wp2
  go_ret
  exact ⟨A, c, rfl, ho.mono (by simp), HB2⟩
theorem l2SumsN_c (A1 : Option Addr) (P : List Int) (c1 : Nat) (A2 : Option Addr) (W : List Int) (c2 : Nat) (w : World) (h1 : Rd w A1 (ints P)) (h2 : Rd w A2 (ints W)) (h : TreeOk P W) (hn1 : 1 ≤ P.length) (hn : P.length ≤ 24) :
    Calls Try.prog 111 #[trV A1 P.length c1 A2 W.length c2] w (RowN w P.length (gath P W)) :=
  (l2Sums_c A1 P c1 A2 W c2 w h1 h2 h.par hn1 hn h.len h.w0).mono fun _ _ hr => rowN hr (by rw [gath_length, h.len])
theorem l2DepthsN_c (A1 : Option Addr) (P : List Int) (c1 : Nat) (A2 : Option Addr) (n2 c2 : Nat) (w : World) (h1 : Rd w A1 (ints P)) (hp : ParOk P) (hn1 : 1 ≤ P.length) (hn : P.length ≤ 24) :
    Calls Try.prog 114 #[trV A1 P.length c1 A2 n2 c2] w (RowN w P.length (dep P)) := (l2Depths_c A1 P c1 A2 n2 c2 w h1 hp hn1 hn).mono fun _ _ hr => rowN hr (dep_length hn1)
theorem depthsN_c (A1 : Option Addr) (P : List Int) (c1 : Nat) (A2 : Option Addr) (n2 c2 : Nat) (w : World) (h1 : Rd w A1 (ints P)) (hp : ParOk P) (hn1 : 1 ≤ P.length) (hn : P.length ≤ 24) :
    Calls Try.prog 72 #[trV A1 P.length c1 A2 n2 c2] w (RowN w P.length (dep P)) := (depths_c A1 P c1 A2 n2 c2 w h1 hp hn1 hn).mono fun _ _ hr => rowN hr (dep_length hn1)
theorem l8One_is (A1 : Option Addr) (P : List Int) (c1 : Nat) (A2 : Option Addr) (W : List Int) (c2 : Nat) (A3 : Option Addr) (F : List Int) (c3 : Nat) (a b : Int) (q : Bool) (hq : (armB P W F && discB a b) = q) (w : World) (h : RdM w A1 P A2 W A3 F) :
    Calls Try.prog 56 #[mkV A1 P.length c1 A2 W.length c2 A3 F.length c3, .int .i64 a, .int .i64 b] w (Quietly w (.bool q)) := by
  have HB1 : Below w.heap.size w (w.alloc (.cells #[.slice A1 P.length c1, .slice A2 W.length c2, .slice A3 F.length c3] 28)) := (Below.refl _ _).alloc (Nat.le_refl _) _
  cases ha : armB P W F
  · rw [ha] at hq
    obtain rfl : q = false := by rw [← hq]; rfl
    go_enter Try.func56, Try.ntmps56
    go_wp2_with fail
    refine (l8Arm_is _ _ _ _ _ _ _ _ _ _ ha _ (h.below HB1 (Nat.le_refl _))).mono ?_
    rintro e w2 ⟨rfl, hb2⟩
    go_wp2
    go_ret
    exact ⟨rfl, bUp HB1 hb2 HB1.size⟩
  · rw [ha, Bool.true_and] at hq
    go_enter Try.func56, Try.ntmps56
    go_wp2_with fail
    refine (l8Arm_is _ _ _ _ _ _ _ _ _ _ ha _ (h.below HB1 (Nat.le_refl _))).mono ?_
    rintro e w2 ⟨rfl, hb2⟩
    go_wp2_with fail
    refine (l8Discount_is a b q hq _).mono ?_
    rintro e w3 ⟨rfl, rfl⟩
    go_wp2
    go_ret
    exact ⟨rfl, bUp HB1 hb2 HB1.size⟩

theorem take_set {xs ys : List Int} {k : Nat} (hl : xs.length = ys.length) (hk : k < ys.length) : (xs.take k ++ ys.drop k).set k (nth xs k) = xs.take (k + 1) ++ ys.drop (k + 1) := by
  rw [List.set_append_right _ _ (by simp; omega)]
  have e : k - (xs.take k).length = 0 := by simp; omega
  rw [e, List.drop_eq_getElem_cons hk, List.set_cons_zero, nth_eq (by omega), List.take_succ_eq_append_getElem (by omega), List.append_assoc]
  rfl
theorem take_nth {xs ys : List Int} {k : Nat} (hl : xs.length = ys.length) (hk : k < ys.length) : nth (xs.take k ++ ys.drop k) k = nth ys k := by
  unfold nth
  rw [List.getD_eq_getElem?_getD, List.getD_eq_getElem?_getD, List.getElem?_append_right (by simp; omega), List.getElem?_drop]
  congr 2
  simp
  omega
/-- The units while they are filled in. -/
def unT (P W : List Int) (b : Int) (k : Nat) : List Int := (unitL P W b).take k ++ (gath P W).drop k
theorem unT_length {P W : List Int} {b : Int} (h : W.length = P.length) (k : Nat) : (unT P W b k).length = P.length := by
  unfold unT
  rw [List.length_append, List.length_take, List.length_drop, unitL_length, gath_length, h]
  omega
theorem unT_zero (P W : List Int) (b : Int) : unT P W b 0 = gath P W := by simp [unT]
theorem unT_all {P W : List Int} {b : Int} (h : W.length = P.length) : unT P W b P.length = unitL P W b := by
  unfold unT
  rw [List.take_of_length_le (by rw [unitL_length]; exact Nat.le_refl _), List.drop_of_length_le (by rw [gath_length, h]; exact Nat.le_refl _), List.append_nil]
theorem unT_set {P W : List Int} {b : Int} (h : W.length = P.length) {k : Nat} (hk : k < P.length) : (unT P W b k).set k (unitX P W b k) = unT P W b (k + 1) := by
  rw [← unitL_nth hk]
  exact take_set (by rw [unitL_length, gath_length, h]) (by rw [gath_length, h]; exact hk)
theorem unT_nth {P W : List Int} {b : Int} (h : W.length = P.length) {k : Nat} (hk : k < P.length) : nth (unT P W b k) k = nth (gath P W) k :=
  take_nth (by rw [unitL_length, gath_length, h]) (by rw [gath_length, h]; exact hk)

set_option maxRecDepth 20000 in
set_option maxHeartbeats 1000000 in
theorem l8Units_c (A1 : Option Addr) (P : List Int) (c1 : Nat) (A2 : Option Addr) (W : List Int) (c2 : Nat) (A3 : Option Addr) (F : List Int) (c3 : Nat) (b : Int) (w : World) (h1 : Rd w A1 (ints P)) (h2 : Rd w A2 (ints W)) (hk : ArmOk P W F) (h0 : 0 ≤ b) (h4 : b ≤ 4) (n3 : Nat) :
    Calls Try.prog 59 #[mkV A1 P.length c1 A2 W.length c2 A3 n3 c3, .int .i64 b] w (RowN w P.length (unitL P W b)) := by
  have HB1 : Below w.heap.size w (w.alloc (.cells #[.slice A1 P.length c1, .slice A2 W.length c2, .slice A3 n3 c3] 28)) := (Below.refl _ _).alloc (Nat.le_refl _) _
  have bx := Bx3.new w (.slice A1 P.length c1) (.slice A2 W.length c2) (.slice A3 n3 c3) 28
  have hn1 := hk.tree.n1
  have hn2 := hk.tree.n2
  have HWL := Lib.hid hk.tree.len
  go_enter Try.func59, Try.ntmps59
  go_upto_region 1 with fail
  generalize w.alloc (.cells #[.slice A1 P.length c1, .slice A2 W.length c2, .slice A3 n3 c3] 28) = v at *
  obtain ⟨f0, f1, f2, fz⟩ := id bx
  have hd : Below v.heap.size v v.drew := Below.drew (Below.refl _ _)
  have SK : Hid (∀ w', Below v.heap.size v w' → w'.cell? ⟨w.heap.size, 0, none⟩ = some (.slice A1 P.length c1) ∧ w'.cell? ⟨w.heap.size, 1, none⟩ = some (.slice A2 W.length c2)) :=
    Lib.hid fun w' HV => ⟨(HV.cell (p := ⟨w.heap.size, 0, none⟩) fz).trans f0, (HV.cell (p := ⟨w.heap.size, 1, none⟩) fz).trans f1⟩
  clear f0 f1 f2
  have hS0 := SK.out v.drew hd
  have h1' := h1.below (Below.drew HB1) (Nat.le_refl _)
  have h2' := h2.below (Below.drew HB1) (Nat.le_refl _)
  refine tamed_region (S := fun w' => w'.cell? ⟨w.heap.size, 0, none⟩ = some (.slice A1 P.length c1) ∧ w'.cell? ⟨w.heap.size, 1, none⟩ = some (.slice A2 W.length c2)) (fun _ => false) (by kernel_rfl) ?_
  refine tame0 (k := 0) ?_ rfl (by kernel_rfl) (by kernel_rfl) (by kernel_rfl) (fun _ _ _ h => h) (by kernel_rfl) (fun v => ?_) ?_
  rotate_left
  · (go_simp; all_goals rfl)
  simp only [Act.put, List.setIfInBounds_toArray]
  refine tame (k := 1) ?_ rfl (by kernel_rfl) (by kernel_rfl) (by kernel_rfl) (by kernel_rfl) (fun _ _ _ h => h) (by kernel_rfl) hS0 (fun v hv => ?_) ?_
  rotate_left
  · (obtain ⟨k1, k2⟩ := hv; go_simp; all_goals rfl)
  simp only [Act.put]
  refine tame0 (k := 3) ?_ rfl (by kernel_rfl) (by kernel_rfl) (by kernel_rfl) (fun _ _ _ h => h) (by kernel_rfl) (fun v => ?_) ?_
  rotate_left
  · (go_simp; all_goals rfl)
  simp only [Act.put]
  refine tame (k := 4) ?_ rfl (by kernel_rfl) (by kernel_rfl) (by kernel_rfl) (by kernel_rfl) (fun _ _ _ h => h) (by kernel_rfl) hS0 (fun v hv => ?_) ?_
  rotate_left
  · (obtain ⟨k1, k2⟩ := hv; go_simp; all_goals rfl)
  simp only [Act.put]
  refine tame_one (k := 2) (by kernel_rfl) rfl (by kernel_rfl) ?_
  go_simp
  refine (l2SumsN_c A1 P c1 A2 W c2 _ h1' h2' hk.tree hn1 hn2).mono ?_
  rintro e w5 ⟨As, cs, rfl, os, b5⟩
  have H5 := bUp hd b5 (Nat.le_refl _)
  refine ⟨by first | exact SK.out _ H5, ?_⟩
  refine tame_one (k := 5) (by kernel_rfl) rfl (by kernel_rfl) ?_
  go_simp
  refine (l2DepthsN_c A1 P c1 A2 W.length c2 _ (h1'.below b5 (Nat.le_refl _)) hk.tree.par hn1 hn2).mono ?_
  rintro e w6 ⟨Ad, cd, rfl, od, b6⟩
  have H6 := bUp H5 b6 H5.size
  refine ⟨by first | exact SK.out _ H6, ?_⟩
  have apd := os.apartR od (Nat.le_refl _)
  have os6 := (os.below b6).mono (B' := w.heap.size + 1) fz
  have od6 := od.mono (B' := w.heap.size + 1) (by have := H5.size; omega)
  have HB6 := HB1.trans (H6.mono HB1.size)
  have bx6 := bx.below H6
  rw [← unT_zero P W b] at os6
  clear os od b5 b6 H5 H6 hS0 h1' h2' hd SK fz bx HB1
  refine tame_one (k := 6) (by kernel_rfl) rfl (by kernel_rfl) ?_
  go_simp
  refine ⟨by obtain ⟨f0, f1, f2, fz⟩ := id bx6; exact ⟨f0, f1⟩, ?_⟩
  refine tame_one (k := 7) (by kernel_rfl) rfl (by kernel_rfl) ?_
  go_simp
  refine ⟨by obtain ⟨f0, f1, f2, fz⟩ := id bx6; exact ⟨f0, f1⟩, ?_⟩
  refine tame_end (by kernel_rfl) ?_
  go_wp2_with fail
  go_loopw [7] (fun i wr => ∃ k : Nat, k ≤ P.length ∧ i = .int .i64 (k : Int) ∧ Own wr (w.heap.size + 1) As cs (unT P W b k) ∧ Own wr (w.heap.size + 1) Ad cd (dep P) ∧ Bx3 wr w.heap.size (.slice A1 P.length c1) (.slice A2 W.length c2) (.slice A3 n3 c3) ∧ Below w.heap.size w wr) (fun i _ => P.length - (intOf i).toNat)
  case atStart => exact ⟨0, by omega, rfl, os6, od6, bx6, HB6⟩
  case round =>
    clear os6 od6 bx6 HB6
    obtain ⟨k, hkl, rfl, os, od, bx, HB⟩ := hrel
    obtain ⟨v, rfl⟩ : ∃ v : World, v = wr := ⟨_, rfl⟩
    by_cases hlt : k < P.length
    · obtain ⟨f0, f1, f2, fz⟩ := id bx
      have i1 : (k : Int) < (P.length : Int) := by omega
      have i0 : (0 : Int) ≤ (k : Int) := by omega
      have HUL := Lib.hid (unT_length (P := P) (W := W) (b := b) HWL.out k)
      have HDL := Lib.hid (dep_length (P := P) hn1)
      have hos0 : 0 < (unT P W b k).length := by rw [HUL.out]; omega
      obtain ⟨gs, rfl, hgs, hgs2⟩ := os.form hos0
      obtain ⟨gd, rfl, hgd, hgd2⟩ := od.form (by rw [HDL.out]; omega)
      clear hos0
      have q1 := os.cellN (k := k) (by rw [HUL.out]; exact hlt)
      rw [unT_nth HWL.out hlt] at q1
      have q2 := od.cellN (k := k) (by rw [HDL.out]; exact hlt)
      have qf := os.frozen k
      go_upto_region 5 with fail
      have hd : Below v.heap.size v v.drew := Below.drew (Below.refl _ _)
      have SK : Hid (∀ w', Below v.heap.size v w' → w'.cell? ⟨w.heap.size, 0, none⟩ = some (.slice A1 P.length c1) ∧ w'.cell? ⟨w.heap.size, 1, none⟩ = some (.slice A2 W.length c2) ∧ w'.cell? ⟨gs, k, none⟩ = some (.int .i64 (nth (gath P W) k)) ∧ w'.cell? ⟨gd, k, none⟩ = some (.int .i64 (nth (dep P) k))) :=
        Lib.hid fun w' HV => ⟨(HV.cell (p := ⟨w.heap.size, 0, none⟩) fz).trans f0, (HV.cell (p := ⟨w.heap.size, 1, none⟩) fz).trans f1, (HV.cell (p := ⟨gs, k, none⟩) hgs2).trans q1, (HV.cell (p := ⟨gd, k, none⟩) hgd2).trans q2⟩
      clear f0 f1 f2 q1 q2
      have hS0 := SK.out v.drew hd
      have h1' := h1.below (Below.drew HB) (Nat.le_refl _)
      have ub := unitX_bd hk h0 h4 hlt
      have hb := hgt_dep hk hlt
      have sb := hk.tree.sum_bd k
      have hgb := hgt_bd P
      have hdb := dep_bd P k
      have hn9 := hk.n9
      have HUX := Lib.hid (show nth (gath P W) k * pw b (hgt P - nth (dep P) k).toNat = unitX P W b k from rfl)
      have e1 : IntKind.i64.wrap (hgt P - nth (dep P) k) = hgt P - nth (dep P) k := IntWalk.i64_in _ (by omega)
      have e2 : IntKind.i64.wrap (nth (gath P W) k * pw b (hgt P - nth (dep P) k).toNat) = nth (gath P W) k * pw b (hgt P - nth (dep P) k).toNat := IntWalk.i64_in _ (by rw [HUX.out]; omega)
      refine tamed_region (S := fun w' => w'.cell? ⟨w.heap.size, 0, none⟩ = some (.slice A1 P.length c1) ∧ w'.cell? ⟨w.heap.size, 1, none⟩ = some (.slice A2 W.length c2) ∧ w'.cell? ⟨gs, k, none⟩ = some (.int .i64 (nth (gath P W) k)) ∧ w'.cell? ⟨gd, k, none⟩ = some (.int .i64 (nth (dep P) k))) (fun j => j == 18) (by kernel_rfl) ?_
      refine tame0 (k := 0) ?_ rfl (by kernel_rfl) (by kernel_rfl) (by kernel_rfl) (fun _ _ _ h => h) (by kernel_rfl) (fun v => ?_) ?_
      rotate_left
      · (go_simp; all_goals rfl)
      simp only [Act.put, List.setIfInBounds_toArray]
      refine tame0 (k := 1) ?_ rfl (by kernel_rfl) (by kernel_rfl) (by kernel_rfl) (fun _ _ _ h => h) (by kernel_rfl) (fun v => ?_) ?_
      rotate_left
      · (go_simp; all_goals rfl)
      simp only [Act.put]
      refine tame0 (k := 2) ?_ rfl (by kernel_rfl) (by kernel_rfl) (by kernel_rfl) (fun _ _ _ h => h) (by kernel_rfl) (fun v => ?_) ?_
      rotate_left
      · (go_simp; all_goals rfl)
      simp only [Act.put]
      refine tame0 (k := 3) ?_ rfl (by kernel_rfl) (by kernel_rfl) (by kernel_rfl) (fun _ _ _ h => h) (by kernel_rfl) (fun v => ?_) ?_
      rotate_left
      · (go_simp; all_goals rfl)
      simp only [Act.put]
      refine tame0 (k := 4) ?_ rfl (by kernel_rfl) (by kernel_rfl) (by kernel_rfl) (fun _ _ _ h => h) (by kernel_rfl) (fun v => ?_) ?_
      rotate_left
      · (go_simp; all_goals rfl)
      simp only [Act.put]
      refine tame (k := 5) ?_ rfl (by kernel_rfl) (by kernel_rfl) (by kernel_rfl) (by kernel_rfl) (fun _ _ _ h => h) (by kernel_rfl) hS0 (fun v hv => ?_) ?_
      rotate_left
      · (obtain ⟨k1, k2, k3, k4⟩ := hv; go_simp; all_goals rfl)
      simp only [Act.put]
      refine tame0 (k := 6) ?_ rfl (by kernel_rfl) (by kernel_rfl) (by kernel_rfl) (fun _ _ _ h => h) (by kernel_rfl) (fun v => ?_) ?_
      rotate_left
      · (go_simp; all_goals rfl)
      simp only [Act.put]
      refine tame0 (k := 7) ?_ rfl (by kernel_rfl) (by kernel_rfl) (by kernel_rfl) (fun _ _ _ h => h) (by kernel_rfl) (fun v => ?_) ?_
      rotate_left
      · (go_simp; all_goals rfl)
      simp only [Act.put]
      refine tame (k := 8) ?_ rfl (by kernel_rfl) (by kernel_rfl) (by kernel_rfl) (by kernel_rfl) (fun _ _ _ h => h) (by kernel_rfl) hS0 (fun v hv => ?_) ?_
      rotate_left
      · (obtain ⟨k1, k2, k3, k4⟩ := hv; go_simp; all_goals rfl)
      simp only [Act.put]
      refine tame0 (k := 10) ?_ rfl (by kernel_rfl) (by kernel_rfl) (by kernel_rfl) (fun _ _ _ h => h) (by kernel_rfl) (fun v => ?_) ?_
      rotate_left
      · (go_simp; all_goals rfl)
      simp only [Act.put]
      refine tame0 (k := 11) ?_ rfl (by kernel_rfl) (by kernel_rfl) (by kernel_rfl) (fun _ _ _ h => h) (by kernel_rfl) (fun v => ?_) ?_
      rotate_left
      · (go_simp; all_goals rfl)
      simp only [Act.put]
      refine tame0 (k := 12) ?_ rfl (by kernel_rfl) (by kernel_rfl) (by kernel_rfl) (fun _ _ _ h => h) (by kernel_rfl) (fun v => ?_) ?_
      rotate_left
      · (go_simp; all_goals rfl)
      simp only [Act.put]
      refine tame (k := 13) ?_ rfl (by kernel_rfl) (by kernel_rfl) (by kernel_rfl) (by kernel_rfl) (fun _ _ _ h => h) (by kernel_rfl) hS0 (fun v hv => ?_) ?_
      rotate_left
      · (obtain ⟨k1, k2, k3, k4⟩ := hv; go_simp; all_goals rfl)
      simp only [Act.put]
      refine tame_one (k := 9) (by kernel_rfl) rfl (by kernel_rfl) ?_
      go_simp
      refine (l8Deepest_c A1 P c1 A2 W.length c2 _ h1' hk.tree.par hn1 hn2).mono ?_
      rintro e w5 ⟨rfl, b5⟩
      have H5 := bUp hd b5 (Nat.le_refl _)
      refine ⟨by first | exact SK.out _ H5, ?_⟩
      refine tame_one (k := 14) (by kernel_rfl) rfl (by kernel_rfl) ?_
      go_simp
      refine ⟨by first | exact SK.out _ H5, ?_⟩
      refine tame_one (k := 15) (by kernel_rfl) rfl (by kernel_rfl) ?_
      go_simp
      refine (l6Power_s b (hgt P - nth (dep P) k) _ h0 h4 hb.1 hb.2 rfl _).mono ?_
      rintro e w6 ⟨rfl, rfl⟩
      refine ⟨by first | exact SK.out _ H5, ?_⟩
      refine tame_one (k := 16) (by kernel_rfl) rfl (by kernel_rfl) ?_
      go_simp
      refine ⟨by first | exact SK.out _ H5, ?_⟩
      refine tame_one (k := 17) (by kernel_rfl) rfl (by kernel_rfl) ?_
      go_simp
      refine ⟨by first | exact SK.out _ H5, ?_⟩
      have os5 := os.below H5
      have od5 := od.below H5
      have bx5 := bx.below H5
      obtain ⟨_, _, q3, _⟩ := SK.out _ H5
      have qf5 := os5.frozen k
      have hst := os5.set k (unitX P W b k)
      rw [unT_set HWL.out hlt] at hst
      rw [HUX.out]
      refine tame_one (k := 18) (by kernel_rfl) rfl (by kernel_rfl) ?_
      go_simp
      refine tame_end (by kernel_rfl) ?_
      go_wp2_with fail
      go_roundw
      case rel => exact ⟨k + 1, by omega, by go_num, hst.1, od5.grown hst.2 apd, bx5.grown hst.2 (by omega), (HB.trans (H5.mono HB.size)).grown hst.2 (by have := HB.size; have := H5.size; omega) (fun j hj => by cases hj; omega)⟩
      case measure => simp [intOf] <;> omega
    · have hkn : k = P.length := by omega
      subst hkn
      rw [unT_all HWL.out] at os
      go_wp2
      go_ret
      exact ⟨_, _, rfl, os.mono (by omega), HB⟩

end Go.Proofs.Ytfobjkdkjlbkfaa
