/- Arms that are played by numbers: both sides. -/
import Derived.Test.YtfobjkdkjlbkfaaGmB
import Derived.Test.YtfobjkdkjlbkfaaPlaA
import Derived.Test.YtfobjkdkjlbkfaaPrL
import Derived.Test.YtfobjkdkjlbkfaaPsA
namespace Go.Proofs.Ytfobjkdkjlbkfaa
open Go.RowKit
open Go.RowKit Go.Maps

/-- What a plan's call answers. -/
def PlnC (L : List Mkd) (a b : Int) (ch : (Nat → Nat) → Int) (fc : FuncId) (cap : Value) (plv : Plv) (p gm : Nat) : Prop := ∀ (X : Nat → Nat) (w : World), At3 L X → PyS w p gm L a b plv →
  Calls Try.prog fc #[.pointer (some ⟨p, 0, none⟩), atV X, cap] w (Quietly w (.int .i64 (ch X)))
theorem stepV_no {L : List Mkd} {a b : Int} {ch : (Nat → Nat) → Int} {V : (Nat → Nat) → Int} {X : Nat → Nat} (h : ¬ 0 ≤ ch X) : stepV L a b (some ch) V X = 0 := if_neg h
theorem stepV_yes {L : List Mkd} {a b : Int} {ch : (Nat → Nat) → Int} {V : (Nat → Nat) → Int} {X : Nat → Nat} {i : Nat} (h : ch X = (i : Int)) : stepV L a b (some ch) V X = aft L a b V X i := by
  show (if 0 ≤ ch X then aft L a b V X (ch X).toNat else 0) = _
  rw [if_pos (by omega), h, Int.toNat_natCast]
set_option maxRecDepth 20000 in
set_option maxHeartbeats 4000000 in
theorem valueP_c {L : List Mkd} {a b : Int} {p gm K : Nat} {ch : (Nat → Nat) → Int} {fc : FuncId} {cap : Value} {plv : Plv} (hv : plv.v = .func (.func fc) #[] #[cap]) (hok : ArmsOk L a b) (hpl : PlOk L (some ch)) (X : Nat → Nat) (HP : PlyC L a b (some ch) plv p gm K X) (hcf : ∀ (args : Array Value) (w : World), (callFunc fc args).run Try.prog w = .ok (.enter fc args) w) (HPl : PlnC L a b ch fc cap plv p gm) (w : World) (N : Nat) (hX : At3 L X)
    (h : PyS w p gm L a b plv) (hM : MemoOk w gm N (At3 L) (valX L a b (some ch))) (hN : N + 3 * K + 1 ≤ 4611686018427387904) :
    Calls Try.prog 79 #[.pointer (some ⟨p, 0, none⟩), atV X] w fun e w' => e = .returned (.int .i64 (valX L a b (some ch) X)) ∧ MemoOk w' gm (N + 3 * K + 1) (At3 L) (valX L a b (some ch)) ∧ w.grownBy w' (some gm) := by
  have HVP := Lib.hid hv
  clear hv
  unfold atV
  have hn3 := hok.n3
  have HB1 : Below w.heap.size w (w.alloc (.cells #[.int .i64 (X 0 : Nat), .int .i64 (X 1 : Nat), .int .i64 (X 2 : Nat)] 95)) := (Below.refl _ _).alloc (Nat.le_refl _) _
  have bx := Bx3.new w (.int .i64 (X 0 : Nat)) (.int .i64 (X 1 : Nat)) (.int .i64 (X 2 : Nat)) 95
  have HS := Lib.hid (h.below HB1)
  have HM := Lib.hid (hM.kept (grown_of_below HB1 none) (by simp))
  have hgm : gm < w.heap.size := by
    obtain ⟨l, ho, _⟩ := hM
    exact ho.lt
  obtain ⟨x0, x1, x2, xz⟩ := bx
  have e6 := (h.below HB1).vm
  have hpg : p ≠ gm := fun e => by
    have := memo_cell hM ⟨p, 6, none⟩ e
    rw [h.vm] at this
    cases this
  obtain ⟨cv, bv, hlook, hcv⟩ := (hM.kept (grown_of_below HB1 none) (by simp)).look hX (hok.small hX)
  unfold atV at hlook
  have HL := Lib.hid hlook
  clear h hM hlook
  go_enter Try.func79, Try.ntmps79
  go_upto_region 1 with fail
  generalize hu : w.alloc (.cells #[.int .i64 (X 0 : Nat), .int .i64 (X 1 : Nat), .int .i64 (X 2 : Nat)] 95) = u at *
  clear hu
  have hd1 : Below u.heap.size u u.drew := Below.drew (Below.refl _ _)
  have HX := Lib.hid (And.intro x0 (And.intro x1 x2))
  have hS : (fun w' : World => w'.cell? ⟨p, 6, none⟩ = some (.map (some gm)) ∧ w'.cell? ⟨w.heap.size, 0, none⟩ = some (.int .i64 (X 0 : Nat)) ∧ w'.cell? ⟨w.heap.size, 1, none⟩ = some (.int .i64 (X 1 : Nat)) ∧ w'.cell? ⟨w.heap.size, 2, none⟩ = some (.int .i64 (X 2 : Nat)) ∧ w'.heap[gm]? = u.heap[gm]?) u.drew := ⟨e6, x0, x1, x2, rfl⟩
  clear e6 x0 x1 x2
  refine tamed_region (S := fun w' => w'.cell? ⟨p, 6, none⟩ = some (.map (some gm)) ∧ w'.cell? ⟨w.heap.size, 0, none⟩ = some (.int .i64 (X 0 : Nat)) ∧ w'.cell? ⟨w.heap.size, 1, none⟩ = some (.int .i64 (X 1 : Nat)) ∧ w'.cell? ⟨w.heap.size, 2, none⟩ = some (.int .i64 (X 2 : Nat)) ∧ w'.heap[gm]? = u.heap[gm]?) (fun _ => false) (by kernel_rfl) ?_
  refine tame0 (k := 0) ?_ rfl (by kernel_rfl) (by kernel_rfl) (by kernel_rfl) (fun _ _ _ h => h) (by kernel_rfl) (fun v => ?_) ?_
  rotate_left
  · (go_simp; all_goals rfl)
  simp only [Act.put, List.setIfInBounds_toArray]
  refine tame0 (k := 1) ?_ rfl (by kernel_rfl) (by kernel_rfl) (by kernel_rfl) (fun _ _ _ h => h) (by kernel_rfl) (fun v => ?_) ?_
  rotate_left
  · (go_simp; all_goals rfl)
  simp only [Act.put]
  refine tame0 (k := 2) ?_ rfl (by kernel_rfl) (by kernel_rfl) (by kernel_rfl) (fun _ _ _ h => h) (by kernel_rfl) (fun v => ?_) ?_
  rotate_left
  · (go_simp; all_goals rfl)
  simp only [Act.put]
  refine tame (k := 3) ?_ rfl (by kernel_rfl) (by kernel_rfl) (by kernel_rfl) (by kernel_rfl) (fun _ _ _ h => h) (by kernel_rfl) hS (fun v hv => ?_) ?_
  rotate_left
  · (obtain ⟨k1, k2, k3, k4, k5⟩ := hv; go_simp; all_goals rfl)
  simp only [Act.put]
  refine tame (k := 4) ?_ rfl (by kernel_rfl) (by kernel_rfl) (by kernel_rfl) (by kernel_rfl) (fun _ _ _ h => h) (by kernel_rfl) hS (fun v hv => ?_) ?_
  rotate_left
  · (obtain ⟨k1, k2, k3, k4, k5⟩ := hv; go_simp; all_goals rfl)
  simp only [Act.put]
  refine tame (k := 5) ?_ rfl (by kernel_rfl) (by kernel_rfl) (by kernel_rfl) (by kernel_rfl) (fun _ _ _ h => h) (by kernel_rfl) hS (fun v hv => ?_) ?_
  rotate_left
  · (obtain ⟨k1, k2, k3, k4, k5⟩ := hv; have hlk := HL.out v k5; go_simp; all_goals rfl)
  simp only [Act.put]
  refine tame0 (k := 6) ?_ rfl (by kernel_rfl) (by kernel_rfl) (by kernel_rfl) (fun _ _ _ h => h) (by kernel_rfl) (fun v => ?_) ?_
  rotate_left
  · (go_simp; all_goals rfl)
  simp only [Act.put]
  refine tame0 (k := 7) ?_ rfl (by kernel_rfl) (by kernel_rfl) (by kernel_rfl) (fun _ _ _ h => h) (by kernel_rfl) (fun v => ?_) ?_
  rotate_left
  · (go_simp; all_goals rfl)
  simp only [Act.put]
  refine tame0 (k := 8) ?_ rfl (by kernel_rfl) (by kernel_rfl) (by kernel_rfl) (fun _ _ _ h => h) (by kernel_rfl) (fun v => ?_) ?_
  rotate_left
  · (go_simp; all_goals rfl)
  simp only [Act.put]
  have hSv := Lib.hid hS
  clear hS
  refine tame_one (k := 9) (by kernel_rfl) rfl (by kernel_rfl) ?_
  go_simp
  refine ⟨hSv.out, ?_⟩
  refine tame_one (k := 10) (by kernel_rfl) rfl (by kernel_rfl) ?_
  go_simp
  refine ⟨hSv.out, ?_⟩
  refine tame_end (by kernel_rfl) ?_
  have HB2 : Below w.heap.size w u.drew := Below.drew HB1
  have HS2 := Lib.hid (HS.out.keep (w' := u.drew) fun _ _ => rfl)
  have HM2 := Lib.hid (HM.out.same (w' := u.drew) rfl)
  have HX2 : Hid (u.drew.cell? ⟨w.heap.size, 0, none⟩ = some (.int .i64 (X 0 : Nat)) ∧ u.drew.cell? ⟨w.heap.size, 1, none⟩ = some (.int .i64 (X 1 : Nat)) ∧ u.drew.cell? ⟨w.heap.size, 2, none⟩ = some (.int .i64 (X 2 : Nat))) := HX
  have xz2 : w.heap.size < u.drew.heap.size := xz
  clear hSv HX HS HM HL HB1 xz hd1
  generalize u.drew = v at *
  have e7 : v.cell? ⟨p, 7, none⟩ = some (.func (.func fc) #[] #[cap]) := HS2.out.vp.trans (by rw [HVP.out])
  obtain ⟨A0, c0, e0, r0⟩ := HS2.out.arms
  cases bv
  · clear hcv
    have hnn : (Sem.run Try.prog (binOp BinOp.neq 106 (.func (.func fc) #[] #[cap]) .nilFunc) v) = .ok (.bool true) v := rfl
    go_upto_region 6 with fail
    clear hnn
    by_cases h0 : 0 ≤ ch X
    · obtain ⟨i, hi⟩ : ∃ i : Nat, ch X = (i : Int) := ⟨(ch X).toNat, by omega⟩
      have hpi := hpl ch rfl X hX.1 h0
      rw [hi, Int.toNat_natCast] at hpi
      have hil : i < L.length := by omega
      have hci := hpi.2
      have hv0 : valX L a b (some ch) X = aft L a b (valX L a b (some ch)) X i := (valX_eq hok hpl hX.1).trans (stepV_yes hi)
      have HV0 := Lib.hid hv0
      have C := HPl X v.drew hX (HS2.out.keep fun _ _ => rfl)
      rw [hi] at C
      unfold atV at C
      have xx := HX2.out
      obtain ⟨x0, x1, x2⟩ := xx
      clear hi h0 hv0 hpi e0 r0
      have hd1 : Below v.heap.size v v.drew := Below.drew (Below.refl _ _)
      have SK1 : Hid (∀ w', Below v.heap.size v w' → w'.cell? ⟨p, 7, none⟩ = some (.func (.func fc) #[] #[cap]) ∧ w'.cell? ⟨w.heap.size, 0, none⟩ = some (.int .i64 (X 0 : Nat)) ∧ w'.cell? ⟨w.heap.size, 1, none⟩ = some (.int .i64 (X 1 : Nat)) ∧ w'.cell? ⟨w.heap.size, 2, none⟩ = some (.int .i64 (X 2 : Nat))) := Lib.hid fun w' HV => ⟨(HV.cell (cell_lt e7)).trans e7, (HV.cell (cell_lt x0)).trans x0, (HV.cell (cell_lt x1)).trans x1, (HV.cell (cell_lt x2)).trans x2⟩
      clear e7 x0 x1 x2
      have hS1_0 := SK1.out _ hd1
      refine tamed_region (S := fun w' => w'.cell? ⟨p, 7, none⟩ = some (.func (.func fc) #[] #[cap]) ∧ w'.cell? ⟨w.heap.size, 0, none⟩ = some (.int .i64 (X 0 : Nat)) ∧ w'.cell? ⟨w.heap.size, 1, none⟩ = some (.int .i64 (X 1 : Nat)) ∧ w'.cell? ⟨w.heap.size, 2, none⟩ = some (.int .i64 (X 2 : Nat))) (fun _ => false) (by kernel_rfl) ?_
      refine tame0 (k := 0) ?_ rfl (by kernel_rfl) (by kernel_rfl) (by kernel_rfl) (fun _ _ _ h => h) (by kernel_rfl) (fun v => ?_) ?_
      rotate_left
      · (go_simp; all_goals rfl)
      simp only [Act.put, List.setIfInBounds_toArray]
      refine tame0 (k := 1) ?_ rfl (by kernel_rfl) (by kernel_rfl) (by kernel_rfl) (fun _ _ _ h => h) (by kernel_rfl) (fun v => ?_) ?_
      rotate_left
      · (go_simp; all_goals rfl)
      simp only [Act.put]
      refine tame0 (k := 2) ?_ rfl (by kernel_rfl) (by kernel_rfl) (by kernel_rfl) (fun _ _ _ h => h) (by kernel_rfl) (fun v => ?_) ?_
      rotate_left
      · (go_simp; all_goals rfl)
      simp only [Act.put]
      refine tame (k := 3) ?_ rfl (by kernel_rfl) (by kernel_rfl) (by kernel_rfl) (by kernel_rfl) (fun _ _ _ h => h) (by kernel_rfl) hS1_0 (fun v hv => ?_) ?_
      rotate_left
      · (obtain ⟨k1, k2, k3, k4⟩ := hv; go_simp; all_goals rfl)
      simp only [Act.put]
      refine tame0 (k := 4) ?_ rfl (by kernel_rfl) (by kernel_rfl) (by kernel_rfl) (fun _ _ _ h => h) (by kernel_rfl) (fun v => ?_) ?_
      rotate_left
      · (go_simp; all_goals rfl)
      simp only [Act.put]
      refine tame (k := 5) ?_ rfl (by kernel_rfl) (by kernel_rfl) (by kernel_rfl) (by kernel_rfl) (fun _ _ _ h => h) (by kernel_rfl) hS1_0 (fun v hv => ?_) ?_
      rotate_left
      · (obtain ⟨k1, k2, k3, k4⟩ := hv; go_simp; all_goals rfl)
      simp only [Act.put]
      refine tame_one (k := 6) (by kernel_rfl) rfl (by kernel_rfl) ?_
      go_simp
      refine (C).mono ?_
      rintro e v2 ⟨rfl, b2⟩
      have hd1_1 := bUp hd1 b2 (Nat.le_refl _)
      have hS1_1 := Lib.hid (SK1.out _ hd1_1)
      refine ⟨by first | exact hS1_1 | exact Hid.out hS1_1, ?_⟩
      refine tame_one (k := 7) (by kernel_rfl) rfl (by kernel_rfl) ?_
      go_simp
      refine ⟨by first | exact hS1_1 | exact Hid.out hS1_1, ?_⟩
      refine tame_end (by kernel_rfl) ?_
      have B2 : Below v.heap.size v v2 := hd1_1
      clear C b2 SK1 hS1_0 hS1_1 hd1 hd1_1
      have hcs2 := CS.of_below B2
      have hgr2 := grown_of_below (bUp HB2 B2 HB2.size) (some gm)
      have hmo2 := HM2.out.kept (grown_of_below B2 none) (by simp)
      have x0 := hcs2.cell HX2.out.1
      have x1 := hcs2.cell HX2.out.2.1
      have x2 := hcs2.cell HX2.out.2.2
      have C := HP i v2 N hil hci (HS2.out.keep hcs2.2) hmo2 (by omega)
      unfold atV at C
      have HMo2 := Lib.hid hmo2
      clear hmo2
      go_wp2_with fail
      refine C.mono ?_
      rintro e v3 ⟨rfl, hmo, hgr3⟩
      clear C x0 x1 x2
      have hcs := hcs2.trans ⟨hgr3.size, memo_same HMo2.out hmo hgr3⟩
      have hgr := hgr2.trans hgr3
      clear hcs2 hgr2 hgr3 HMo2
      have vm := (HS2.out.keep hcs.2).vm
      have x0 := hcs.cell HX2.out.1
      have x1 := hcs.cell HX2.out.2.1
      have x2 := hcs.cell HX2.out.2.2
      have hvb := valX_bd hok hpl hX.1
      rw [HV0.out] at hvb
      obtain ⟨w5, hrun, hmo5, htu⟩ := (hmo.same (w' := v3.drew) rfl).store (hok.small hX) (by unfold maxLen; omega) (v := aft L a b (valX L a b (some ch)) X i) (WalkArith.wf_i64 (by omega)) (fun Y hY e => by rw [hX.ext hn3 hY e]; exact HV0.out)
      unfold atV at hrun
      have hgr5 := hgr.trans (show v3.grownBy w5 (some gm) from ⟨htu.grown.os, htu.grown.tape, htu.grown.output, htu.grown.size, htu.grown.block⟩)
      have HM5 := Lib.hid hmo5
      clear hvb hmo hmo5 htu hgr
      go_upto_region 15 with fail
      have hd2 : Below v3.heap.size v3 v3.drew := Below.drew (Below.refl _ _)
      have SK2 : Hid (∀ w', Below v3.heap.size v3 w' → w'.cell? ⟨p, 6, none⟩ = some (.map (some gm)) ∧ w'.cell? ⟨w.heap.size, 0, none⟩ = some (.int .i64 (X 0 : Nat)) ∧ w'.cell? ⟨w.heap.size, 1, none⟩ = some (.int .i64 (X 1 : Nat)) ∧ w'.cell? ⟨w.heap.size, 2, none⟩ = some (.int .i64 (X 2 : Nat))) := Lib.hid fun w' HV => ⟨(HV.cell (cell_lt vm)).trans vm, (HV.cell (cell_lt x0)).trans x0, (HV.cell (cell_lt x1)).trans x1, (HV.cell (cell_lt x2)).trans x2⟩
      clear vm x0 x1 x2
      have hS2_0 := SK2.out _ hd2
      refine tamed_region (S := fun w' => w'.cell? ⟨p, 6, none⟩ = some (.map (some gm)) ∧ w'.cell? ⟨w.heap.size, 0, none⟩ = some (.int .i64 (X 0 : Nat)) ∧ w'.cell? ⟨w.heap.size, 1, none⟩ = some (.int .i64 (X 1 : Nat)) ∧ w'.cell? ⟨w.heap.size, 2, none⟩ = some (.int .i64 (X 2 : Nat))) (fun k => k == 6) (by kernel_rfl) ?_
      refine tame0 (k := 0) ?_ rfl (by kernel_rfl) (by kernel_rfl) (by kernel_rfl) (fun _ _ _ h => h) (by kernel_rfl) (fun v => ?_) ?_
      rotate_left
      · (go_simp; all_goals rfl)
      simp only [Act.put, List.setIfInBounds_toArray]
      refine tame0 (k := 1) ?_ rfl (by kernel_rfl) (by kernel_rfl) (by kernel_rfl) (fun _ _ _ h => h) (by kernel_rfl) (fun v => ?_) ?_
      rotate_left
      · (go_simp; all_goals rfl)
      simp only [Act.put]
      refine tame0 (k := 2) ?_ rfl (by kernel_rfl) (by kernel_rfl) (by kernel_rfl) (fun _ _ _ h => h) (by kernel_rfl) (fun v => ?_) ?_
      rotate_left
      · (go_simp; all_goals rfl)
      simp only [Act.put]
      refine tameT (k := 3) ?_ rfl (by kernel_rfl) (by kernel_rfl) (by kernel_rfl) (by kernel_rfl) (by kernel_rfl) (fun _ _ _ h => h) (by kernel_rfl) hS2_0 (fun v hv => ?_) ?_
      rotate_left
      · (obtain ⟨k1, k2, k3, k4⟩ := hv; go_simp; all_goals rfl)
      simp only [Act.put]
      refine tameT (k := 4) ?_ rfl (by kernel_rfl) (by kernel_rfl) (by kernel_rfl) (by kernel_rfl) (by kernel_rfl) (fun _ _ _ h => h) (by kernel_rfl) hS2_0 (fun v hv => ?_) ?_
      rotate_left
      · (obtain ⟨k1, k2, k3, k4⟩ := hv; go_simp; all_goals rfl)
      simp only [Act.put]
      refine tame0 (k := 5) ?_ rfl (by kernel_rfl) (by kernel_rfl) (by kernel_rfl) (fun _ _ _ h => h) (by kernel_rfl) (fun v => ?_) ?_
      rotate_left
      · (go_simp; all_goals rfl)
      simp only [Act.put]
      refine tame_one (k := 6) (by kernel_rfl) rfl (by kernel_rfl) ?_
      go_simp
      try (refine ⟨fun h => absurd h (by decide), ?_⟩)
      refine tame_end (by kernel_rfl) ?_
      clear hrun
      go_wp2_with fail
      go_ret
      exact ⟨by rw [HV0.out] <;> rfl, HM5.out.mono (by omega), hgr5⟩
    · have hv0 : valX L a b (some ch) X = 0 := (valX_eq hok hpl hX.1).trans (stepV_no h0)
      have HV0 := Lib.hid hv0
      have C := HPl X v.drew hX (HS2.out.keep fun _ _ => rfl)
      unfold atV at C
      obtain ⟨x0, x1, x2⟩ := HX2.out
      clear hv0 e0 r0
      have hd3 : Below v.heap.size v v.drew := Below.drew (Below.refl _ _)
      have SK3 : Hid (∀ w', Below v.heap.size v w' → w'.cell? ⟨p, 7, none⟩ = some (.func (.func fc) #[] #[cap]) ∧ w'.cell? ⟨w.heap.size, 0, none⟩ = some (.int .i64 (X 0 : Nat)) ∧ w'.cell? ⟨w.heap.size, 1, none⟩ = some (.int .i64 (X 1 : Nat)) ∧ w'.cell? ⟨w.heap.size, 2, none⟩ = some (.int .i64 (X 2 : Nat))) := Lib.hid fun w' HV => ⟨(HV.cell (cell_lt e7)).trans e7, (HV.cell (cell_lt x0)).trans x0, (HV.cell (cell_lt x1)).trans x1, (HV.cell (cell_lt x2)).trans x2⟩
      clear e7 x0 x1 x2
      have hS3_0 := SK3.out _ hd3
      refine tamed_region (S := fun w' => w'.cell? ⟨p, 7, none⟩ = some (.func (.func fc) #[] #[cap]) ∧ w'.cell? ⟨w.heap.size, 0, none⟩ = some (.int .i64 (X 0 : Nat)) ∧ w'.cell? ⟨w.heap.size, 1, none⟩ = some (.int .i64 (X 1 : Nat)) ∧ w'.cell? ⟨w.heap.size, 2, none⟩ = some (.int .i64 (X 2 : Nat))) (fun _ => false) (by kernel_rfl) ?_
      refine tame0 (k := 0) ?_ rfl (by kernel_rfl) (by kernel_rfl) (by kernel_rfl) (fun _ _ _ h => h) (by kernel_rfl) (fun v => ?_) ?_
      rotate_left
      · (go_simp; all_goals rfl)
      simp only [Act.put, List.setIfInBounds_toArray]
      refine tame0 (k := 1) ?_ rfl (by kernel_rfl) (by kernel_rfl) (by kernel_rfl) (fun _ _ _ h => h) (by kernel_rfl) (fun v => ?_) ?_
      rotate_left
      · (go_simp; all_goals rfl)
      simp only [Act.put]
      refine tame0 (k := 2) ?_ rfl (by kernel_rfl) (by kernel_rfl) (by kernel_rfl) (fun _ _ _ h => h) (by kernel_rfl) (fun v => ?_) ?_
      rotate_left
      · (go_simp; all_goals rfl)
      simp only [Act.put]
      refine tame (k := 3) ?_ rfl (by kernel_rfl) (by kernel_rfl) (by kernel_rfl) (by kernel_rfl) (fun _ _ _ h => h) (by kernel_rfl) hS3_0 (fun v hv => ?_) ?_
      rotate_left
      · (obtain ⟨k1, k2, k3, k4⟩ := hv; go_simp; all_goals rfl)
      simp only [Act.put]
      refine tame0 (k := 4) ?_ rfl (by kernel_rfl) (by kernel_rfl) (by kernel_rfl) (fun _ _ _ h => h) (by kernel_rfl) (fun v => ?_) ?_
      rotate_left
      · (go_simp; all_goals rfl)
      simp only [Act.put]
      refine tame (k := 5) ?_ rfl (by kernel_rfl) (by kernel_rfl) (by kernel_rfl) (by kernel_rfl) (fun _ _ _ h => h) (by kernel_rfl) hS3_0 (fun v hv => ?_) ?_
      rotate_left
      · (obtain ⟨k1, k2, k3, k4⟩ := hv; go_simp; all_goals rfl)
      simp only [Act.put]
      refine tame_one (k := 6) (by kernel_rfl) rfl (by kernel_rfl) ?_
      go_simp
      refine (C).mono ?_
      rintro e v2 ⟨rfl, b2⟩
      have hd3_1 := bUp hd3 b2 (Nat.le_refl _)
      have hS3_1 := Lib.hid (SK3.out _ hd3_1)
      refine ⟨by first | exact hS3_1 | exact Hid.out hS3_1, ?_⟩
      refine tame_one (k := 7) (by kernel_rfl) rfl (by kernel_rfl) ?_
      go_simp
      refine ⟨by first | exact hS3_1 | exact Hid.out hS3_1, ?_⟩
      refine tame_end (by kernel_rfl) ?_
      have B2 : Below v.heap.size v v2 := hd3_1
      clear C b2 SK3 hS3_0 hS3_1 hd3 hd3_1
      have hcs := CS.of_below B2
      have hgr := grown_of_below (bUp HB2 B2 HB2.size) (some gm)
      have hmo := HM2.out.kept (grown_of_below B2 none) (by simp)
      have vm := (HS2.out.keep hcs.2).vm
      have x0 := hcs.cell HX2.out.1
      have x1 := hcs.cell HX2.out.2.1
      have x2 := hcs.cell HX2.out.2.2
      have hvb := valX_bd hok hpl hX.1
      rw [HV0.out] at hvb
      obtain ⟨w5, hrun, hmo5, htu⟩ := (hmo.same (w' := v2.drew) rfl).store (hok.small hX) (by unfold maxLen; omega) (v := 0) (WalkArith.wf_i64 (by omega)) (fun Y hY e => by rw [hX.ext hn3 hY e]; exact HV0.out)
      unfold atV at hrun
      have hgr5 := hgr.trans (show v2.grownBy w5 (some gm) from ⟨htu.grown.os, htu.grown.tape, htu.grown.output, htu.grown.size, htu.grown.block⟩)
      have HM5 := Lib.hid hmo5
      clear hvb hmo hmo5 htu hgr
      go_upto_region 15 with fail
      have hd4 : Below v2.heap.size v2 v2.drew := Below.drew (Below.refl _ _)
      have SK4 : Hid (∀ w', Below v2.heap.size v2 w' → w'.cell? ⟨p, 6, none⟩ = some (.map (some gm)) ∧ w'.cell? ⟨w.heap.size, 0, none⟩ = some (.int .i64 (X 0 : Nat)) ∧ w'.cell? ⟨w.heap.size, 1, none⟩ = some (.int .i64 (X 1 : Nat)) ∧ w'.cell? ⟨w.heap.size, 2, none⟩ = some (.int .i64 (X 2 : Nat))) := Lib.hid fun w' HV => ⟨(HV.cell (cell_lt vm)).trans vm, (HV.cell (cell_lt x0)).trans x0, (HV.cell (cell_lt x1)).trans x1, (HV.cell (cell_lt x2)).trans x2⟩
      clear vm x0 x1 x2
      have hS4_0 := SK4.out _ hd4
      refine tamed_region (S := fun w' => w'.cell? ⟨p, 6, none⟩ = some (.map (some gm)) ∧ w'.cell? ⟨w.heap.size, 0, none⟩ = some (.int .i64 (X 0 : Nat)) ∧ w'.cell? ⟨w.heap.size, 1, none⟩ = some (.int .i64 (X 1 : Nat)) ∧ w'.cell? ⟨w.heap.size, 2, none⟩ = some (.int .i64 (X 2 : Nat))) (fun k => k == 6) (by kernel_rfl) ?_
      refine tame0 (k := 0) ?_ rfl (by kernel_rfl) (by kernel_rfl) (by kernel_rfl) (fun _ _ _ h => h) (by kernel_rfl) (fun v => ?_) ?_
      rotate_left
      · (go_simp; all_goals rfl)
      simp only [Act.put, List.setIfInBounds_toArray]
      refine tame0 (k := 1) ?_ rfl (by kernel_rfl) (by kernel_rfl) (by kernel_rfl) (fun _ _ _ h => h) (by kernel_rfl) (fun v => ?_) ?_
      rotate_left
      · (go_simp; all_goals rfl)
      simp only [Act.put]
      refine tame0 (k := 2) ?_ rfl (by kernel_rfl) (by kernel_rfl) (by kernel_rfl) (fun _ _ _ h => h) (by kernel_rfl) (fun v => ?_) ?_
      rotate_left
      · (go_simp; all_goals rfl)
      simp only [Act.put]
      refine tameT (k := 3) ?_ rfl (by kernel_rfl) (by kernel_rfl) (by kernel_rfl) (by kernel_rfl) (by kernel_rfl) (fun _ _ _ h => h) (by kernel_rfl) hS4_0 (fun v hv => ?_) ?_
      rotate_left
      · (obtain ⟨k1, k2, k3, k4⟩ := hv; go_simp; all_goals rfl)
      simp only [Act.put]
      refine tameT (k := 4) ?_ rfl (by kernel_rfl) (by kernel_rfl) (by kernel_rfl) (by kernel_rfl) (by kernel_rfl) (fun _ _ _ h => h) (by kernel_rfl) hS4_0 (fun v hv => ?_) ?_
      rotate_left
      · (obtain ⟨k1, k2, k3, k4⟩ := hv; go_simp; all_goals rfl)
      simp only [Act.put]
      refine tame0 (k := 5) ?_ rfl (by kernel_rfl) (by kernel_rfl) (by kernel_rfl) (fun _ _ _ h => h) (by kernel_rfl) (fun v => ?_) ?_
      rotate_left
      · (go_simp; all_goals rfl)
      simp only [Act.put]
      refine tame_one (k := 6) (by kernel_rfl) rfl (by kernel_rfl) ?_
      go_simp
      try (refine ⟨fun h => absurd h (by decide), ?_⟩)
      refine tame_end (by kernel_rfl) ?_
      clear hrun
      go_wp2_with fail
      go_ret
      exact ⟨by rw [HV0.out] <;> rfl, HM5.out.mono (by omega), hgr5⟩
  · have hcv := hcv rfl
    subst hcv
    go_wp2_with fail
    go_ret
    exact ⟨rfl, HM2.out.mono (by omega), grown_of_below HB2 _⟩
theorem valC_plan {L : List Mkd} {a b : Int} {p gm : Nat} {ch : (Nat → Nat) → Int} {fc : FuncId} {cap : Value} {plv : Plv} (hv : plv.v = .func (.func fc) #[] #[cap]) (hok : ArmsOk L a b) (hpl : PlOk L (some ch)) (hcf : ∀ (args : Array Value) (w : World), (callFunc fc args).run Try.prog w = .ok (.enter fc args) w) (HPl : PlnC L a b ch fc cap plv p gm) :
    ∀ m, ValC L a b (some ch) plv p gm m := by
  intro m
  induction m with
  | zero =>
    intro X w N hX hm h hM hN
    unfold Lim at hN
    have HP : PlyC L a b (some ch) plv p gm 0 X := fun i _ _ hi hc _ _ _ => by
      have := hok.rem_can hX.1 hi hc
      omega
    refine (valueP_c hv hok hpl X HP hcf HPl w N hX h hM (by omega)).mono ?_
    rintro e w' ⟨rfl, h1, h2⟩
    exact ⟨rfl, h1.mono (by omega), h2⟩
  | succ m ih =>
    intro X w N hX hm h hM hN
    unfold Lim at hN
    have h28 := pow28 m
    generalize 28 ^ (m + 1 + 1) = q2 at *
    have HP : PlyC L a b (some ch) plv p gm (9 * 28 ^ (m + 1)) X := fun i w N hi _ h hM hN => play_c hok hpl ih X w N i hX hm hi h hM hN
    refine (valueP_c hv hok hpl X HP hcf HPl w N hX h hM (by omega)).mono ?_
    rintro e w' ⟨rfl, h1, h2⟩
    exact ⟨rfl, h1.mono (by omega), h2⟩

/-- The arm that is chosen among the first k, and its number; 'one': the first one that has a number above 0. -/
def choT (L : List Mkd) (num : Nat → Nat → Int × Int) (one : Bool) (X : Nat → Nat) : Nat → Int × (Int × Int)
  | 0 => (-1, (0, 1))
  | k + 1 => if canX L X k && (lessP (choT L num one X k).2 (num k (X k)) && (!one || decide ((choT L num one X k).1 < 0))) then ((k : Int), num k (X k)) else choT L num one X k
def choX (L : List Mkd) (num : Nat → Nat → Int × Int) (one : Bool) (X : Nat → Nat) : Int := (choT L num one X L.length).1
section
variable {L : List Mkd} {num : Nat → Nat → Int × Int} {one : Bool} {X : Nat → Nat}
theorem choT_yes {k : Nat} (h1 : canX L X k = true) (h2 : lessP (choT L num one X k).2 (num k (X k)) = true) (h3 : one = false ∨ (choT L num one X k).1 < 0) : choT L num one X (k + 1) = ((k : Int), num k (X k)) := by
  rw [choT, h1, h2]
  rcases h3 with rfl | h3
  · rfl
  · rw [decide_eq_true h3]
    cases one <;> rfl
theorem choT_no1 {k : Nat} (h : canX L X k = false) : choT L num one X (k + 1) = choT L num one X k := by rw [choT, h]; rfl
theorem choT_no2 {k : Nat} (h : lessP (choT L num one X k).2 (num k (X k)) = false) : choT L num one X (k + 1) = choT L num one X k := by
  rw [choT, h]
  cases canX L X k <;> rfl
theorem choT_no3 {k : Nat} (h : one = true) (h2 : ¬ (choT L num one X k).1 < 0) : choT L num one X (k + 1) = choT L num one X k := by
  subst h
  rw [choT, decide_eq_false h2]
  cases canX L X k <;> cases lessP (choT L num true X k).2 (num k (X k)) <;> rfl
theorem choT_at : ∀ k, ((choT L num one X k).1 = -1 ∧ (choT L num one X k).2 = (0, 1)) ∨ ∃ i, i < k ∧ (choT L num one X k).1 = (i : Int) ∧ canX L X i = true ∧ (choT L num one X k).2 = num i (X i) := by
  intro k
  induction k with
  | zero => exact .inl ⟨rfl, rfl⟩
  | succ k ih =>
    have keep : choT L num one X (k + 1) = choT L num one X k → (((choT L num one X (k + 1)).1 = -1 ∧ (choT L num one X (k + 1)).2 = (0, 1)) ∨ ∃ i, i < k + 1 ∧ (choT L num one X (k + 1)).1 = (i : Int) ∧ canX L X i = true ∧ (choT L num one X (k + 1)).2 = num i (X i)) := fun e => by
      rw [e]
      exact ih.imp id fun ⟨i, h1, h2⟩ => ⟨i, Nat.lt_succ_of_lt h1, h2⟩
    cases h1 : canX L X k with
    | false => exact keep (choT_no1 h1)
    | true =>
      cases h2 : lessP (choT L num one X k).2 (num k (X k)) with
      | false => exact keep (choT_no2 h2)
      | true =>
        by_cases h3 : one = false ∨ (choT L num one X k).1 < 0
        · rw [choT_yes h1 h2 h3]
          exact .inr ⟨k, Nat.lt_succ_self k, rfl, h1, rfl⟩
        · have h4 : one = true := by
            cases one
            · exact absurd (.inl rfl) h3
            · rfl
          exact keep (choT_no3 h4 fun h => h3 (.inr h))
theorem cho_ok : PlOk L (some (choX L num one)) := by
  intro ch hch X _ h0
  injection hch with hch
  subst hch
  rcases choT_at (L := L) (num := num) (one := one) (X := X) L.length with ⟨h, _⟩ | ⟨i, h1, h2, h3, _⟩
  · have h : choX L num one X = -1 := h
    omega
  · have h2 : choX L num one X = (i : Int) := h2
    rw [h2, Int.toNat_natCast]
    exact ⟨by omega, h3⟩
end
/-- Numbers that can be compared. -/
def NumOk (L : List Mkd) (num : Nat → Nat → Int × Int) : Prop := ∀ i x, i < L.length → x < (mAt L i).P.length → -1000000000 ≤ (num i x).1 ∧ (num i x).1 ≤ 1000000000 ∧ 1 ≤ (num i x).2 ∧ (num i x).2 ≤ 1000000
theorem NumOk.most {L : List Mkd} {num : Nat → Nat → Int × Int} (h : NumOk L num) {one : Bool} {X : Nat → Nat} (hX : AtOk L X) {k : Nat} (hk : k ≤ L.length) : -1000000000 ≤ (choT L num one X k).2.1 ∧ (choT L num one X k).2.1 ≤ 1000000000 ∧ 1 ≤ (choT L num one X k).2.2 ∧ (choT L num one X k).2.2 ≤ 1000000 := by
  rcases choT_at (L := L) (num := num) (one := one) (X := X) k with ⟨_, h2⟩ | ⟨i, h1, _, _, h4⟩
  · rw [h2]
    decide
  · rw [h4]
    exact h i (X i) (by omega) (hX i (by omega))

/-- Rows of pairs hold the numbers. -/
def NumR (L : List Mkd) (num : Nat → Nat → Int × Int) (f : Nat → List (Int × Int)) : Prop := ∀ i, i < L.length → (f i).length = (mAt L i).P.length ∧ ∀ x, x < (mAt L i).P.length → nP (f i) x = num i x
set_option maxRecDepth 20000 in
set_option maxHeartbeats 4000000 in
theorem l8ChosenN_c {L : List Mkd} {a b way : Int} {num : Nat → Nat → Int × Int} {f : Nat → List (Int × Int)} (hw : way ≠ 3) (hok : ArmsOk L a b) (hnum : NumOk L num) (hf : NumR L num f) {X : Nat → Nat} (hX : AtOk L X) (A : Option Addr) (c : Nat) (AU : Option Addr) (cU : Nat) (AN : Option Addr) (cN : Nat) (B : Option Addr) (cb : Nat) (w : World)
    (h : RdMs w A L) (hN : RdN w AN L.length f) (hB : Rd w B (ints (atL L.length X))) :
    Calls Try.prog 129 #[gmV A c AU cU AN cN L.length a b, .slice B L.length cb, .int .i64 way] w (Quietly w (.int .i64 (choX L num false X))) := by
  unfold gmV
  have HB1 : Below w.heap.size w ((w.alloc (.cells #[.slice A L.length c, .slice AU L.length cU, .slice AN L.length cN, .int .i64 a, .int .i64 b] 101)).alloc (.cells #[.int .i64 0, .int .i64 1] 31)) := ((Below.refl _ _).alloc (Nat.le_refl _) _).alloc (by simp) _
  have bx := (Bx5.new w (.slice A L.length c) (.slice AU L.length cU) (.slice AN L.length cN) (.int .i64 a) (.int .i64 b) 101).keep (w' := (w.alloc (.cells #[.slice A L.length c, .slice AU L.length cU, .slice AN L.length cN, .int .i64 a, .int .i64 b] 101)).alloc (.cells #[.int .i64 0, .int .i64 1] 31)) (fun q hq => ((Below.refl (w.alloc (.cells #[.slice A L.length c, .slice AU L.length cU, .slice AN L.length cN, .int .i64 a, .int .i64 b] 101)).heap.size _).alloc (Nat.le_refl _) _).cell hq)
  have bm := Bx.new (w.alloc (.cells #[.slice A L.length c, .slice AU L.length cU, .slice AN L.length cN, .int .i64 a, .int .i64 b] 101)) (.int .i64 0) (.int .i64 1) 31
  simp only [World.size_alloc] at bm
  have BX := Lib.hid bx
  have BM := Lib.hid bm
  clear bx bm
  have hn3 := hok.n3
  have hwy : (way == 3) = false := by simp [hw]
  have hwn : (way != 3) = true := by simp [hw]
  go_enter Try.func129, Try.ntmps129
  go_wp2_with fail
  have hz : w.heap.size + 2 = ((w.alloc (.cells #[.slice A L.length c, .slice AU L.length cU, .slice AN L.length cN, .int .i64 a, .int .i64 b] 101)).alloc (.cells #[.int .i64 0, .int .i64 1] 31)).heap.size := by simp
  have HZ := Lib.hid hz
  clear hz
  generalize (w.alloc (.cells #[.slice A L.length c, .slice AU L.length cU, .slice AN L.length cN, .int .i64 a, .int .i64 b] 101)).alloc (.cells #[.int .i64 0, .int .i64 1] 31) = u at *
  go_loopw [7, 9] (fun q j wr => ∃ k : Nat, k ≤ L.length ∧ j = .int .i64 (k : Int) ∧ q = .int .i64 (choT L num false X k).1 ∧ Bx wr (w.heap.size + 1) (.int .i64 (choT L num false X k).2.1) (.int .i64 (choT L num false X k).2.2) ∧ Below (w.heap.size + 1) u wr) (fun _ j _ => L.length - (intOf j).toNat)
  case atStart => exact ⟨0, by omega, rfl, rfl, BM.out, Below.refl _ _⟩
  case round =>
    obtain ⟨v, rfl⟩ : ∃ v : World, v = wr := ⟨_, rfl⟩
    obtain ⟨k, hk, rfl, rfl, bm, HB⟩ := hrel
    have HBW : Below w.heap.size w v := HB1.trans (HB.mono (Nat.le_succ _))
    by_cases hlt : k < L.length
    · obtain ⟨ad, A1, c1, A2, c2, A3, c3, rfl, p1, p2, p3, _, t2, _⟩ := (h.below HBW (Nat.le_refl _)) k hlt
      have hwl := (hok.arm hlt).tree.len
      have hxk := hX k hlt
      obtain ⟨aw, rfl, qw⟩ := t2.intN (k := X k) (by omega)
      have p2' := cellOff 1 (by omega) p2
      rw [hwl] at p2'
      obtain ⟨ax, rfl, qx⟩ := (hB.below HBW (Nat.le_refl _)).intN (k := k) (by rw [atL_len]; exact hlt)
      rw [atL_nth hlt] at qx
      have g0 := (HB.cell (p := ⟨w.heap.size, 0, none⟩) (Nat.lt_succ_self _)).trans BX.out.c0
      have hzv : w.heap.size + 1 < v.heap.size := bm.2.2.2.2
      clear p1 p2 p3 t2 hwl
      cases hc : canX L X k
      · have e1 := can_w hok hX hlt hc
        have HN1 := Lib.hid (choT_no1 (num := num) (one := false) hc)
        clear hc
        go_upto_region 6 with fail
        have hd1 : Below v.heap.size v v.drew := Below.drew (Below.refl _ _)
        have SK1 : Hid (∀ w', Below v.heap.size v w' → w'.cell? ⟨w.heap.size, 0, none⟩ = some (.slice (some ad) L.length c) ∧ w'.cell? ⟨(ad.add (k * 3)).block, (ad.add (k * 3)).off + 1, none⟩ = some (.slice (some aw) (mAt L k).P.length c2) ∧ w'.cell? (aw.add (X k)) = some (.int .i64 (nth (mAt L k).W (X k)))) := Lib.hid fun w' HV => ⟨(HV.cell (cell_lt g0)).trans g0, (HV.cell (cell_lt p2')).trans p2', (HV.cell (cell_lt qw)).trans qw⟩
        clear g0 p2' qw
        have hS1_0 := SK1.out _ hd1
        refine tamed_region (S := fun w' => w'.cell? ⟨w.heap.size, 0, none⟩ = some (.slice (some ad) L.length c) ∧ w'.cell? ⟨(ad.add (k * 3)).block, (ad.add (k * 3)).off + 1, none⟩ = some (.slice (some aw) (mAt L k).P.length c2) ∧ w'.cell? (aw.add (X k)) = some (.int .i64 (nth (mAt L k).W (X k)))) (fun _ => false) (by kernel_rfl) ?_
        refine tame0 (k := 0) ?_ rfl (by kernel_rfl) (by kernel_rfl) (by kernel_rfl) (fun _ _ _ h => h) (by kernel_rfl) (fun v => ?_) ?_
        rotate_left
        · (go_simp; all_goals rfl)
        simp only [Act.put, List.setIfInBounds_toArray]
        refine tame (k := 1) ?_ rfl (by kernel_rfl) (by kernel_rfl) (by kernel_rfl) (by kernel_rfl) (fun _ _ _ h => h) (by kernel_rfl) hS1_0 (fun v hv => ?_) ?_
        rotate_left
        · (obtain ⟨k1, k2, k3⟩ := hv; go_simp; all_goals rfl)
        simp only [Act.put]
        refine tame0 (k := 2) ?_ rfl (by kernel_rfl) (by kernel_rfl) (by kernel_rfl) (fun _ _ _ h => h) (by kernel_rfl) (fun v => ?_) ?_
        rotate_left
        · (go_simp; all_goals rfl)
        simp only [Act.put]
        refine tame0 (k := 3) ?_ rfl (by kernel_rfl) (by kernel_rfl) (by kernel_rfl) (fun _ _ _ h => h) (by kernel_rfl) (fun v => ?_) ?_
        rotate_left
        · (go_simp; all_goals rfl)
        simp only [Act.put]
        refine tame0 (k := 4) ?_ rfl (by kernel_rfl) (by kernel_rfl) (by kernel_rfl) (fun _ _ _ h => h) (by kernel_rfl) (fun v => ?_) ?_
        rotate_left
        · (go_simp; all_goals rfl)
        simp only [Act.put]
        refine tame0 (k := 5) ?_ rfl (by kernel_rfl) (by kernel_rfl) (by kernel_rfl) (fun _ _ _ h => h) (by kernel_rfl) (fun v => ?_) ?_
        rotate_left
        · (go_simp; all_goals rfl)
        simp only [Act.put]
        refine tame (k := 6) ?_ rfl (by kernel_rfl) (by kernel_rfl) (by kernel_rfl) (by kernel_rfl) (fun _ _ _ h => h) (by kernel_rfl) hS1_0 (fun v hv => ?_) ?_
        rotate_left
        · (obtain ⟨k1, k2, k3⟩ := hv; go_simp; all_goals rfl)
        simp only [Act.put]
        refine tame0 (k := 7) ?_ rfl (by kernel_rfl) (by kernel_rfl) (by kernel_rfl) (fun _ _ _ h => h) (by kernel_rfl) (fun v => ?_) ?_
        rotate_left
        · (go_simp; all_goals rfl)
        simp only [Act.put]
        refine tame0 (k := 8) ?_ rfl (by kernel_rfl) (by kernel_rfl) (by kernel_rfl) (fun _ _ _ h => h) (by kernel_rfl) (fun v => ?_) ?_
        rotate_left
        · (go_simp; all_goals rfl)
        simp only [Act.put]
        refine tame (k := 9) ?_ rfl (by kernel_rfl) (by kernel_rfl) (by kernel_rfl) (by kernel_rfl) (fun _ _ _ h => h) (by kernel_rfl) hS1_0 (fun v hv => ?_) ?_
        rotate_left
        · (obtain ⟨k1, k2, k3⟩ := hv; go_simp; all_goals rfl)
        simp only [Act.put]
        refine tame0 (k := 10) ?_ rfl (by kernel_rfl) (by kernel_rfl) (by kernel_rfl) (fun _ _ _ h => h) (by kernel_rfl) (fun v => ?_) ?_
        rotate_left
        · (go_simp; all_goals rfl)
        simp only [Act.put]
        refine tame0 (k := 11) ?_ rfl (by kernel_rfl) (by kernel_rfl) (by kernel_rfl) (fun _ _ _ h => h) (by kernel_rfl) (fun v => ?_) ?_
        rotate_left
        · (go_simp; all_goals rfl)
        simp only [Act.put]
        refine tame_no (k := 12) rfl (by kernel_rfl) (by kernel_rfl) (by kernel_rfl) (fun _ _ _ h => h) (by kernel_rfl) ?_
        simp only [Act.put]
        refine tame_no (k := 13) rfl (by kernel_rfl) (by kernel_rfl) (by kernel_rfl) (fun _ _ _ h => h) (by kernel_rfl) ?_
        simp only [Act.put]
        refine tame_no (k := 14) rfl (by kernel_rfl) (by kernel_rfl) (by kernel_rfl) (fun _ _ _ h => h) (by kernel_rfl) ?_
        simp only [Act.put]
        refine tame_no (k := 15) rfl (by kernel_rfl) (by kernel_rfl) (by kernel_rfl) (fun _ _ _ h => h) (by kernel_rfl) ?_
        simp only [Act.put]
        refine tame_no (k := 16) rfl (by kernel_rfl) (by kernel_rfl) (by kernel_rfl) (fun _ _ _ h => h) (by kernel_rfl) ?_
        simp only [Act.put]
        refine tame_no (k := 17) rfl (by kernel_rfl) (by kernel_rfl) (by kernel_rfl) (fun _ _ _ h => h) (by kernel_rfl) ?_
        simp only [Act.put]
        refine tame_no (k := 18) rfl (by kernel_rfl) (by kernel_rfl) (by kernel_rfl) (fun _ _ _ h => h) (by kernel_rfl) ?_
        simp only [Act.put]
        refine tame_no (k := 19) rfl (by kernel_rfl) (by kernel_rfl) (by kernel_rfl) (fun _ _ _ h => h) (by kernel_rfl) ?_
        simp only [Act.put]
        refine tame_no (k := 20) rfl (by kernel_rfl) (by kernel_rfl) (by kernel_rfl) (fun _ _ _ h => h) (by kernel_rfl) ?_
        simp only [Act.put]
        refine tame_no (k := 21) rfl (by kernel_rfl) (by kernel_rfl) (by kernel_rfl) (fun _ _ _ h => h) (by kernel_rfl) ?_
        simp only [Act.put]
        refine tame0 (k := 22) ?_ rfl (by kernel_rfl) (by kernel_rfl) (by kernel_rfl) (fun _ _ _ h => h) (by kernel_rfl) (fun v => ?_) ?_
        rotate_left
        · (go_simp; all_goals rfl)
        simp only [Act.put]
        refine tame0 (k := 23) ?_ rfl (by kernel_rfl) (by kernel_rfl) (by kernel_rfl) (fun _ _ _ h => h) (by kernel_rfl) (fun v => ?_) ?_
        rotate_left
        · (go_simp; all_goals rfl)
        simp only [Act.put]
        refine tame_no (k := 24) rfl (by kernel_rfl) (by kernel_rfl) (by kernel_rfl) (fun _ _ _ h => h) (by kernel_rfl) ?_
        simp only [Act.put]
        refine tame_no (k := 25) rfl (by kernel_rfl) (by kernel_rfl) (by kernel_rfl) (fun _ _ _ h => h) (by kernel_rfl) ?_
        simp only [Act.put]
        refine tame_no (k := 26) rfl (by kernel_rfl) (by kernel_rfl) (by kernel_rfl) (fun _ _ _ h => h) (by kernel_rfl) ?_
        simp only [Act.put]
        refine tame_no (k := 27) rfl (by kernel_rfl) (by kernel_rfl) (by kernel_rfl) (fun _ _ _ h => h) (by kernel_rfl) ?_
        simp only [Act.put]
        refine tame_no (k := 28) rfl (by kernel_rfl) (by kernel_rfl) (by kernel_rfl) (fun _ _ _ h => h) (by kernel_rfl) ?_
        simp only [Act.put]
        refine tame_no (k := 29) rfl (by kernel_rfl) (by kernel_rfl) (by kernel_rfl) (fun _ _ _ h => h) (by kernel_rfl) ?_
        simp only [Act.put]
        have hS1_0v := Lib.hid hS1_0
        clear hS1_0
        refine tame_one (k := 30) (by kernel_rfl) rfl (by kernel_rfl) ?_
        go_simp
        refine ⟨by first | exact hS1_0v | exact Hid.out hS1_0v, ?_⟩
        refine tame_end (by kernel_rfl) ?_
        have bm9 := bm.below hd1
        have HB9 := bUp HB hd1 (by omega)
        clear bm
        go_wp2_with fail
        go_roundw
        case rel => exact ⟨k + 1, by omega, by go_num, by rw [HN1.out], by rw [HN1.out]; exact bm9, HB9⟩
        case measure => simp [intOf] <;> omega
      · have e1 := can_w hok hX hlt hc
        obtain ⟨an, AR, cr, rfl, n1, rr⟩ := (hN.below HBW) k hlt
        obtain ⟨hfl, hfx⟩ := hf k hlt
        have hfx := hfx (X k) hxk
        obtain ⟨y0, y1⟩ := pcells_get (f k) (X k) (by omega)
        obtain ⟨ar, rfl, r0⟩ := rr _ _ y0
        obtain ⟨_, er, r1⟩ := rr _ _ y1
        injection er with er
        subst er
        change _ = some (Value.int .i64 (nP (f k) (X k)).1) at r0
        change _ = some (Value.int .i64 (nP (f k) (X k)).2) at r1
        rw [hfx] at r0 r1
        rw [hfl] at n1
        have r1' := cellOff 1 (by omega) r1
        have g2 := (HB.cell (p := ⟨w.heap.size, 2, none⟩) (Nat.lt_succ_self _)).trans BX.out.c2
        have m0 := bm.1
        have m1 := bm.2.1
        have hms := hnum.most (one := false) hX hk
        have hnm := hnum k (X k) hlt hxk
        have hnk : (X k : Int) < ((mAt L k).P.length : Int) := by omega
        clear y0 y1 rr hfl hfx r1
        obtain ⟨Q, hQ⟩ : ∃ Q, Q = lessP (choT L num false X k).2 (num k (X k)) := ⟨_, rfl⟩
        have HQ : Hid (decide ((choT L num false X k).2.1 * (num k (X k)).2 < (num k (X k)).1 * (choT L num false X k).2.2) = Q) := Lib.hid (by rw [hQ]; rfl)
        have CC := Lib.hid (fun (w9 : World) => l2Less_is (choT L num false X k).2.1 (choT L num false X k).2.2 (num k (X k)).1 (num k (X k)).2 Q HQ.out (by omega) (by omega) (by omega) (by omega) (by omega) (by omega) (by omega) (by omega) w9)
        clear hms hnm HQ
        cases Q
        · have HN1 := Lib.hid (choT_no2 (one := false) hQ.symm)
          clear hc hQ
          go_upto_region 6 with fail
          have hd2 : Below v.heap.size v v.drew := Below.drew (Below.refl _ _)
          have SK2 : Hid (∀ w', Below v.heap.size v w' → w'.cell? ⟨w.heap.size, 0, none⟩ = some (.slice (some ad) L.length c) ∧ w'.cell? ⟨(ad.add (k * 3)).block, (ad.add (k * 3)).off + 1, none⟩ = some (.slice (some aw) (mAt L k).P.length c2) ∧ w'.cell? (aw.add (X k)) = some (.int .i64 (nth (mAt L k).W (X k))) ∧ w'.cell? ⟨w.heap.size, 2, none⟩ = some (.slice (some an) L.length cN) ∧ w'.cell? (an.add k) = some (.slice (some ar) (mAt L k).P.length cr) ∧ w'.cell? (ar.add (X k * 2)) = some (.int .i64 (num k (X k)).1) ∧ w'.cell? ⟨(ar.add (X k * 2)).block, (ar.add (X k * 2)).off + 1, none⟩ = some (.int .i64 (num k (X k)).2) ∧ w'.cell? ⟨w.heap.size + 1, 0, none⟩ = some (.int .i64 (choT L num false X k).2.1) ∧ w'.cell? ⟨w.heap.size + 1, 1, none⟩ = some (.int .i64 (choT L num false X k).2.2)) := Lib.hid fun w' HV => ⟨(HV.cell (cell_lt g0)).trans g0, (HV.cell (cell_lt p2')).trans p2', (HV.cell (cell_lt qw)).trans qw, (HV.cell (cell_lt g2)).trans g2, (HV.cell (cell_lt n1)).trans n1, (HV.cell (cell_lt r0)).trans r0, (HV.cell (cell_lt r1')).trans r1', (HV.cell (cell_lt m0)).trans m0, (HV.cell (cell_lt m1)).trans m1⟩
          clear g0 p2' qw g2 n1 r0 r1' m0 m1
          have hS2_0 := SK2.out _ hd2
          refine tamed_region (S := fun w' => w'.cell? ⟨w.heap.size, 0, none⟩ = some (.slice (some ad) L.length c) ∧ w'.cell? ⟨(ad.add (k * 3)).block, (ad.add (k * 3)).off + 1, none⟩ = some (.slice (some aw) (mAt L k).P.length c2) ∧ w'.cell? (aw.add (X k)) = some (.int .i64 (nth (mAt L k).W (X k))) ∧ w'.cell? ⟨w.heap.size, 2, none⟩ = some (.slice (some an) L.length cN) ∧ w'.cell? (an.add k) = some (.slice (some ar) (mAt L k).P.length cr) ∧ w'.cell? (ar.add (X k * 2)) = some (.int .i64 (num k (X k)).1) ∧ w'.cell? ⟨(ar.add (X k * 2)).block, (ar.add (X k * 2)).off + 1, none⟩ = some (.int .i64 (num k (X k)).2) ∧ w'.cell? ⟨w.heap.size + 1, 0, none⟩ = some (.int .i64 (choT L num false X k).2.1) ∧ w'.cell? ⟨w.heap.size + 1, 1, none⟩ = some (.int .i64 (choT L num false X k).2.2)) (fun _ => false) (by kernel_rfl) ?_
          refine tame0 (k := 0) ?_ rfl (by kernel_rfl) (by kernel_rfl) (by kernel_rfl) (fun _ _ _ h => h) (by kernel_rfl) (fun v => ?_) ?_
          rotate_left
          · (go_simp; all_goals rfl)
          simp only [Act.put, List.setIfInBounds_toArray]
          refine tame (k := 1) ?_ rfl (by kernel_rfl) (by kernel_rfl) (by kernel_rfl) (by kernel_rfl) (fun _ _ _ h => h) (by kernel_rfl) hS2_0 (fun v hv => ?_) ?_
          rotate_left
          · (obtain ⟨k1, k2, k3, k4, k5, k6, k7, k8, k9⟩ := hv; go_simp; all_goals rfl)
          simp only [Act.put]
          refine tame0 (k := 2) ?_ rfl (by kernel_rfl) (by kernel_rfl) (by kernel_rfl) (fun _ _ _ h => h) (by kernel_rfl) (fun v => ?_) ?_
          rotate_left
          · (go_simp; all_goals rfl)
          simp only [Act.put]
          refine tame0 (k := 3) ?_ rfl (by kernel_rfl) (by kernel_rfl) (by kernel_rfl) (fun _ _ _ h => h) (by kernel_rfl) (fun v => ?_) ?_
          rotate_left
          · (go_simp; all_goals rfl)
          simp only [Act.put]
          refine tame0 (k := 4) ?_ rfl (by kernel_rfl) (by kernel_rfl) (by kernel_rfl) (fun _ _ _ h => h) (by kernel_rfl) (fun v => ?_) ?_
          rotate_left
          · (go_simp; all_goals rfl)
          simp only [Act.put]
          refine tame0 (k := 5) ?_ rfl (by kernel_rfl) (by kernel_rfl) (by kernel_rfl) (fun _ _ _ h => h) (by kernel_rfl) (fun v => ?_) ?_
          rotate_left
          · (go_simp; all_goals rfl)
          simp only [Act.put]
          refine tame (k := 6) ?_ rfl (by kernel_rfl) (by kernel_rfl) (by kernel_rfl) (by kernel_rfl) (fun _ _ _ h => h) (by kernel_rfl) hS2_0 (fun v hv => ?_) ?_
          rotate_left
          · (obtain ⟨k1, k2, k3, k4, k5, k6, k7, k8, k9⟩ := hv; go_simp; all_goals rfl)
          simp only [Act.put]
          refine tame0 (k := 7) ?_ rfl (by kernel_rfl) (by kernel_rfl) (by kernel_rfl) (fun _ _ _ h => h) (by kernel_rfl) (fun v => ?_) ?_
          rotate_left
          · (go_simp; all_goals rfl)
          simp only [Act.put]
          refine tame0 (k := 8) ?_ rfl (by kernel_rfl) (by kernel_rfl) (by kernel_rfl) (fun _ _ _ h => h) (by kernel_rfl) (fun v => ?_) ?_
          rotate_left
          · (go_simp; all_goals rfl)
          simp only [Act.put]
          refine tame (k := 9) ?_ rfl (by kernel_rfl) (by kernel_rfl) (by kernel_rfl) (by kernel_rfl) (fun _ _ _ h => h) (by kernel_rfl) hS2_0 (fun v hv => ?_) ?_
          rotate_left
          · (obtain ⟨k1, k2, k3, k4, k5, k6, k7, k8, k9⟩ := hv; go_simp; all_goals rfl)
          simp only [Act.put]
          refine tame0 (k := 10) ?_ rfl (by kernel_rfl) (by kernel_rfl) (by kernel_rfl) (fun _ _ _ h => h) (by kernel_rfl) (fun v => ?_) ?_
          rotate_left
          · (go_simp; all_goals rfl)
          simp only [Act.put]
          refine tame0 (k := 11) ?_ rfl (by kernel_rfl) (by kernel_rfl) (by kernel_rfl) (fun _ _ _ h => h) (by kernel_rfl) (fun v => ?_) ?_
          rotate_left
          · (go_simp; all_goals rfl)
          simp only [Act.put]
          refine tame (k := 12) ?_ rfl (by kernel_rfl) (by kernel_rfl) (by kernel_rfl) (by kernel_rfl) (fun _ _ _ h => h) (by kernel_rfl) hS2_0 (fun v hv => ?_) ?_
          rotate_left
          · (obtain ⟨k1, k2, k3, k4, k5, k6, k7, k8, k9⟩ := hv; go_simp; all_goals rfl)
          simp only [Act.put]
          refine tame0 (k := 13) ?_ rfl (by kernel_rfl) (by kernel_rfl) (by kernel_rfl) (fun _ _ _ h => h) (by kernel_rfl) (fun v => ?_) ?_
          rotate_left
          · (go_simp; all_goals rfl)
          simp only [Act.put]
          refine tame (k := 14) ?_ rfl (by kernel_rfl) (by kernel_rfl) (by kernel_rfl) (by kernel_rfl) (fun _ _ _ h => h) (by kernel_rfl) hS2_0 (fun v hv => ?_) ?_
          rotate_left
          · (obtain ⟨k1, k2, k3, k4, k5, k6, k7, k8, k9⟩ := hv; go_simp; all_goals rfl)
          simp only [Act.put]
          refine tame0 (k := 15) ?_ rfl (by kernel_rfl) (by kernel_rfl) (by kernel_rfl) (fun _ _ _ h => h) (by kernel_rfl) (fun v => ?_) ?_
          rotate_left
          · (go_simp; all_goals rfl)
          simp only [Act.put]
          refine tame0 (k := 16) ?_ rfl (by kernel_rfl) (by kernel_rfl) (by kernel_rfl) (fun _ _ _ h => h) (by kernel_rfl) (fun v => ?_) ?_
          rotate_left
          · (go_simp; all_goals rfl)
          simp only [Act.put]
          refine tame (k := 17) ?_ rfl (by kernel_rfl) (by kernel_rfl) (by kernel_rfl) (by kernel_rfl) (fun _ _ _ h => h) (by kernel_rfl) hS2_0 (fun v hv => ?_) ?_
          rotate_left
          · (obtain ⟨k1, k2, k3, k4, k5, k6, k7, k8, k9⟩ := hv; go_simp; all_goals rfl)
          simp only [Act.put]
          refine tame0 (k := 18) ?_ rfl (by kernel_rfl) (by kernel_rfl) (by kernel_rfl) (fun _ _ _ h => h) (by kernel_rfl) (fun v => ?_) ?_
          rotate_left
          · (go_simp; all_goals rfl)
          simp only [Act.put]
          refine tame0 (k := 19) ?_ rfl (by kernel_rfl) (by kernel_rfl) (by kernel_rfl) (fun _ _ _ h => h) (by kernel_rfl) (fun v => ?_) ?_
          rotate_left
          · (go_simp; all_goals rfl)
          simp only [Act.put]
          refine tame (k := 20) ?_ rfl (by kernel_rfl) (by kernel_rfl) (by kernel_rfl) (by kernel_rfl) (fun _ _ _ h => h) (by kernel_rfl) hS2_0 (fun v hv => ?_) ?_
          rotate_left
          · (obtain ⟨k1, k2, k3, k4, k5, k6, k7, k8, k9⟩ := hv; go_simp; all_goals rfl)
          simp only [Act.put]
          refine tame_one (k := 21) (by kernel_rfl) rfl (by kernel_rfl) ?_
          go_simp
          refine (CC.out _).mono ?_
          rintro e v5 ⟨rfl, b5⟩
          have hd2_1 := bUp hd2 b5 (Nat.le_refl _)
          have hS2_1 := Lib.hid (SK2.out _ hd2_1)
          refine ⟨by first | exact hS2_1 | exact Hid.out hS2_1, ?_⟩
          refine tame0 (k := 22) ?_ rfl (by kernel_rfl) (by kernel_rfl) (by kernel_rfl) (fun _ _ _ h => h) (by kernel_rfl) (fun v => ?_) ?_
          rotate_left
          · (go_simp; all_goals rfl)
          simp only [Act.put]
          refine tame0 (k := 23) ?_ rfl (by kernel_rfl) (by kernel_rfl) (by kernel_rfl) (fun _ _ _ h => h) (by kernel_rfl) (fun v => ?_) ?_
          rotate_left
          · (go_simp; all_goals rfl)
          simp only [Act.put]
          refine tame_no (k := 24) rfl (by kernel_rfl) (by kernel_rfl) (by kernel_rfl) (fun _ _ _ h => h) (by kernel_rfl) ?_
          simp only [Act.put]
          refine tame_no (k := 25) rfl (by kernel_rfl) (by kernel_rfl) (by kernel_rfl) (fun _ _ _ h => h) (by kernel_rfl) ?_
          simp only [Act.put]
          refine tame_no (k := 26) rfl (by kernel_rfl) (by kernel_rfl) (by kernel_rfl) (fun _ _ _ h => h) (by kernel_rfl) ?_
          simp only [Act.put]
          refine tame_no (k := 27) rfl (by kernel_rfl) (by kernel_rfl) (by kernel_rfl) (fun _ _ _ h => h) (by kernel_rfl) ?_
          simp only [Act.put]
          refine tame_no (k := 28) rfl (by kernel_rfl) (by kernel_rfl) (by kernel_rfl) (fun _ _ _ h => h) (by kernel_rfl) ?_
          simp only [Act.put]
          refine tame_no (k := 29) rfl (by kernel_rfl) (by kernel_rfl) (by kernel_rfl) (fun _ _ _ h => h) (by kernel_rfl) ?_
          simp only [Act.put]
          refine tame_one (k := 30) (by kernel_rfl) rfl (by kernel_rfl) ?_
          go_simp
          refine ⟨by first | exact hS2_1 | exact Hid.out hS2_1, ?_⟩
          refine tame_end (by kernel_rfl) ?_
          have bm9 := bm.below hd2_1
          have HB9 := bUp HB hd2_1 (by omega)
          clear bm
          go_wp2_with fail
          go_roundw
          case rel => exact ⟨k + 1, by omega, by go_num, by rw [HN1.out], by rw [HN1.out]; exact bm9, HB9⟩
          case measure => simp [intOf] <;> omega
        · have HN1 := Lib.hid (choT_yes (one := false) hc hQ.symm (.inl rfl))
          have NN := Lib.hid (And.intro n1 (And.intro r0 r1'))
          clear hc hQ
          go_upto_region 6 with fail
          have hd3 : Below v.heap.size v v.drew := Below.drew (Below.refl _ _)
          have SK3 : Hid (∀ w', Below v.heap.size v w' → w'.cell? ⟨w.heap.size, 0, none⟩ = some (.slice (some ad) L.length c) ∧ w'.cell? ⟨(ad.add (k * 3)).block, (ad.add (k * 3)).off + 1, none⟩ = some (.slice (some aw) (mAt L k).P.length c2) ∧ w'.cell? (aw.add (X k)) = some (.int .i64 (nth (mAt L k).W (X k))) ∧ w'.cell? ⟨w.heap.size, 2, none⟩ = some (.slice (some an) L.length cN) ∧ w'.cell? (an.add k) = some (.slice (some ar) (mAt L k).P.length cr) ∧ w'.cell? (ar.add (X k * 2)) = some (.int .i64 (num k (X k)).1) ∧ w'.cell? ⟨(ar.add (X k * 2)).block, (ar.add (X k * 2)).off + 1, none⟩ = some (.int .i64 (num k (X k)).2) ∧ w'.cell? ⟨w.heap.size + 1, 0, none⟩ = some (.int .i64 (choT L num false X k).2.1) ∧ w'.cell? ⟨w.heap.size + 1, 1, none⟩ = some (.int .i64 (choT L num false X k).2.2)) := Lib.hid fun w' HV => ⟨(HV.cell (cell_lt g0)).trans g0, (HV.cell (cell_lt p2')).trans p2', (HV.cell (cell_lt qw)).trans qw, (HV.cell (cell_lt g2)).trans g2, (HV.cell (cell_lt n1)).trans n1, (HV.cell (cell_lt r0)).trans r0, (HV.cell (cell_lt r1')).trans r1', (HV.cell (cell_lt m0)).trans m0, (HV.cell (cell_lt m1)).trans m1⟩
          clear g0 p2' qw g2 n1 r0 r1' m0 m1
          have hS3_0 := SK3.out _ hd3
          refine tamed_region (S := fun w' => w'.cell? ⟨w.heap.size, 0, none⟩ = some (.slice (some ad) L.length c) ∧ w'.cell? ⟨(ad.add (k * 3)).block, (ad.add (k * 3)).off + 1, none⟩ = some (.slice (some aw) (mAt L k).P.length c2) ∧ w'.cell? (aw.add (X k)) = some (.int .i64 (nth (mAt L k).W (X k))) ∧ w'.cell? ⟨w.heap.size, 2, none⟩ = some (.slice (some an) L.length cN) ∧ w'.cell? (an.add k) = some (.slice (some ar) (mAt L k).P.length cr) ∧ w'.cell? (ar.add (X k * 2)) = some (.int .i64 (num k (X k)).1) ∧ w'.cell? ⟨(ar.add (X k * 2)).block, (ar.add (X k * 2)).off + 1, none⟩ = some (.int .i64 (num k (X k)).2) ∧ w'.cell? ⟨w.heap.size + 1, 0, none⟩ = some (.int .i64 (choT L num false X k).2.1) ∧ w'.cell? ⟨w.heap.size + 1, 1, none⟩ = some (.int .i64 (choT L num false X k).2.2)) (fun _ => false) (by kernel_rfl) ?_
          refine tame0 (k := 0) ?_ rfl (by kernel_rfl) (by kernel_rfl) (by kernel_rfl) (fun _ _ _ h => h) (by kernel_rfl) (fun v => ?_) ?_
          rotate_left
          · (go_simp; all_goals rfl)
          simp only [Act.put, List.setIfInBounds_toArray]
          refine tame (k := 1) ?_ rfl (by kernel_rfl) (by kernel_rfl) (by kernel_rfl) (by kernel_rfl) (fun _ _ _ h => h) (by kernel_rfl) hS3_0 (fun v hv => ?_) ?_
          rotate_left
          · (obtain ⟨k1, k2, k3, k4, k5, k6, k7, k8, k9⟩ := hv; go_simp; all_goals rfl)
          simp only [Act.put]
          refine tame0 (k := 2) ?_ rfl (by kernel_rfl) (by kernel_rfl) (by kernel_rfl) (fun _ _ _ h => h) (by kernel_rfl) (fun v => ?_) ?_
          rotate_left
          · (go_simp; all_goals rfl)
          simp only [Act.put]
          refine tame0 (k := 3) ?_ rfl (by kernel_rfl) (by kernel_rfl) (by kernel_rfl) (fun _ _ _ h => h) (by kernel_rfl) (fun v => ?_) ?_
          rotate_left
          · (go_simp; all_goals rfl)
          simp only [Act.put]
          refine tame0 (k := 4) ?_ rfl (by kernel_rfl) (by kernel_rfl) (by kernel_rfl) (fun _ _ _ h => h) (by kernel_rfl) (fun v => ?_) ?_
          rotate_left
          · (go_simp; all_goals rfl)
          simp only [Act.put]
          refine tame0 (k := 5) ?_ rfl (by kernel_rfl) (by kernel_rfl) (by kernel_rfl) (fun _ _ _ h => h) (by kernel_rfl) (fun v => ?_) ?_
          rotate_left
          · (go_simp; all_goals rfl)
          simp only [Act.put]
          refine tame (k := 6) ?_ rfl (by kernel_rfl) (by kernel_rfl) (by kernel_rfl) (by kernel_rfl) (fun _ _ _ h => h) (by kernel_rfl) hS3_0 (fun v hv => ?_) ?_
          rotate_left
          · (obtain ⟨k1, k2, k3, k4, k5, k6, k7, k8, k9⟩ := hv; go_simp; all_goals rfl)
          simp only [Act.put]
          refine tame0 (k := 7) ?_ rfl (by kernel_rfl) (by kernel_rfl) (by kernel_rfl) (fun _ _ _ h => h) (by kernel_rfl) (fun v => ?_) ?_
          rotate_left
          · (go_simp; all_goals rfl)
          simp only [Act.put]
          refine tame0 (k := 8) ?_ rfl (by kernel_rfl) (by kernel_rfl) (by kernel_rfl) (fun _ _ _ h => h) (by kernel_rfl) (fun v => ?_) ?_
          rotate_left
          · (go_simp; all_goals rfl)
          simp only [Act.put]
          refine tame (k := 9) ?_ rfl (by kernel_rfl) (by kernel_rfl) (by kernel_rfl) (by kernel_rfl) (fun _ _ _ h => h) (by kernel_rfl) hS3_0 (fun v hv => ?_) ?_
          rotate_left
          · (obtain ⟨k1, k2, k3, k4, k5, k6, k7, k8, k9⟩ := hv; go_simp; all_goals rfl)
          simp only [Act.put]
          refine tame0 (k := 10) ?_ rfl (by kernel_rfl) (by kernel_rfl) (by kernel_rfl) (fun _ _ _ h => h) (by kernel_rfl) (fun v => ?_) ?_
          rotate_left
          · (go_simp; all_goals rfl)
          simp only [Act.put]
          refine tame0 (k := 11) ?_ rfl (by kernel_rfl) (by kernel_rfl) (by kernel_rfl) (fun _ _ _ h => h) (by kernel_rfl) (fun v => ?_) ?_
          rotate_left
          · (go_simp; all_goals rfl)
          simp only [Act.put]
          refine tame (k := 12) ?_ rfl (by kernel_rfl) (by kernel_rfl) (by kernel_rfl) (by kernel_rfl) (fun _ _ _ h => h) (by kernel_rfl) hS3_0 (fun v hv => ?_) ?_
          rotate_left
          · (obtain ⟨k1, k2, k3, k4, k5, k6, k7, k8, k9⟩ := hv; go_simp; all_goals rfl)
          simp only [Act.put]
          refine tame0 (k := 13) ?_ rfl (by kernel_rfl) (by kernel_rfl) (by kernel_rfl) (fun _ _ _ h => h) (by kernel_rfl) (fun v => ?_) ?_
          rotate_left
          · (go_simp; all_goals rfl)
          simp only [Act.put]
          refine tame (k := 14) ?_ rfl (by kernel_rfl) (by kernel_rfl) (by kernel_rfl) (by kernel_rfl) (fun _ _ _ h => h) (by kernel_rfl) hS3_0 (fun v hv => ?_) ?_
          rotate_left
          · (obtain ⟨k1, k2, k3, k4, k5, k6, k7, k8, k9⟩ := hv; go_simp; all_goals rfl)
          simp only [Act.put]
          refine tame0 (k := 15) ?_ rfl (by kernel_rfl) (by kernel_rfl) (by kernel_rfl) (fun _ _ _ h => h) (by kernel_rfl) (fun v => ?_) ?_
          rotate_left
          · (go_simp; all_goals rfl)
          simp only [Act.put]
          refine tame0 (k := 16) ?_ rfl (by kernel_rfl) (by kernel_rfl) (by kernel_rfl) (fun _ _ _ h => h) (by kernel_rfl) (fun v => ?_) ?_
          rotate_left
          · (go_simp; all_goals rfl)
          simp only [Act.put]
          refine tame (k := 17) ?_ rfl (by kernel_rfl) (by kernel_rfl) (by kernel_rfl) (by kernel_rfl) (fun _ _ _ h => h) (by kernel_rfl) hS3_0 (fun v hv => ?_) ?_
          rotate_left
          · (obtain ⟨k1, k2, k3, k4, k5, k6, k7, k8, k9⟩ := hv; go_simp; all_goals rfl)
          simp only [Act.put]
          refine tame0 (k := 18) ?_ rfl (by kernel_rfl) (by kernel_rfl) (by kernel_rfl) (fun _ _ _ h => h) (by kernel_rfl) (fun v => ?_) ?_
          rotate_left
          · (go_simp; all_goals rfl)
          simp only [Act.put]
          refine tame0 (k := 19) ?_ rfl (by kernel_rfl) (by kernel_rfl) (by kernel_rfl) (fun _ _ _ h => h) (by kernel_rfl) (fun v => ?_) ?_
          rotate_left
          · (go_simp; all_goals rfl)
          simp only [Act.put]
          refine tame (k := 20) ?_ rfl (by kernel_rfl) (by kernel_rfl) (by kernel_rfl) (by kernel_rfl) (fun _ _ _ h => h) (by kernel_rfl) hS3_0 (fun v hv => ?_) ?_
          rotate_left
          · (obtain ⟨k1, k2, k3, k4, k5, k6, k7, k8, k9⟩ := hv; go_simp; all_goals rfl)
          simp only [Act.put]
          refine tame_one (k := 21) (by kernel_rfl) rfl (by kernel_rfl) ?_
          go_simp
          refine (CC.out _).mono ?_
          rintro e v5 ⟨rfl, b5⟩
          have hd3_1 := bUp hd3 b5 (Nat.le_refl _)
          have hS3_1 := Lib.hid (SK3.out _ hd3_1)
          refine ⟨by first | exact hS3_1 | exact Hid.out hS3_1, ?_⟩
          refine tame0 (k := 22) ?_ rfl (by kernel_rfl) (by kernel_rfl) (by kernel_rfl) (fun _ _ _ h => h) (by kernel_rfl) (fun v => ?_) ?_
          rotate_left
          · (go_simp; all_goals rfl)
          simp only [Act.put]
          refine tame0 (k := 23) ?_ rfl (by kernel_rfl) (by kernel_rfl) (by kernel_rfl) (fun _ _ _ h => h) (by kernel_rfl) (fun v => ?_) ?_
          rotate_left
          · (go_simp; all_goals rfl)
          simp only [Act.put]
          refine tame0 (k := 24) ?_ rfl (by kernel_rfl) (by kernel_rfl) (by kernel_rfl) (fun _ _ _ h => h) (by kernel_rfl) (fun v => ?_) ?_
          rotate_left
          · (go_simp; all_goals rfl)
          simp only [Act.put]
          refine tame0 (k := 25) ?_ rfl (by kernel_rfl) (by kernel_rfl) (by kernel_rfl) (fun _ _ _ h => h) (by kernel_rfl) (fun v => ?_) ?_
          rotate_left
          · (go_simp; all_goals rfl)
          simp only [Act.put]
          refine tame0 (k := 26) ?_ rfl (by kernel_rfl) (by kernel_rfl) (by kernel_rfl) (fun _ _ _ h => h) (by kernel_rfl) (fun v => ?_) ?_
          rotate_left
          · (go_simp; all_goals rfl)
          simp only [Act.put]
          refine tame_no (k := 27) rfl (by kernel_rfl) (by kernel_rfl) (by kernel_rfl) (fun _ _ _ h => h) (by kernel_rfl) ?_
          simp only [Act.put]
          refine tame_no (k := 28) rfl (by kernel_rfl) (by kernel_rfl) (by kernel_rfl) (fun _ _ _ h => h) (by kernel_rfl) ?_
          simp only [Act.put]
          refine tame0 (k := 29) ?_ rfl (by kernel_rfl) (by kernel_rfl) (by kernel_rfl) (fun _ _ _ h => h) (by kernel_rfl) (fun v => ?_) ?_
          rotate_left
          · (go_simp; all_goals rfl)
          simp only [Act.put]
          refine tame_one (k := 30) (by kernel_rfl) rfl (by kernel_rfl) ?_
          go_simp
          refine ⟨by first | exact hS3_1 | exact Hid.out hS3_1, ?_⟩
          refine tame_end (by kernel_rfl) ?_
          have bm9 := bm.below hd3_1
          have HB9 := bUp HB hd3_1 (by omega)
          have HB8 := HB1.trans (HB9.mono (Nat.le_succ _))
          clear bm
          obtain ⟨m0, m1, m2, m3, m4⟩ := id bm9
          have g2 := (HB9.cell (p := ⟨w.heap.size, 2, none⟩) (Nat.lt_succ_self _)).trans BX.out.c2
          have n1 := (hd3_1.cell (cell_lt NN.out.1)).trans NN.out.1
          have r0 := (hd3_1.cell (cell_lt NN.out.2.1)).trans NN.out.2.1
          have r1' := (hd3_1.cell (cell_lt NN.out.2.2)).trans NN.out.2.2
          have bmX := bx_put bm9 (.int .i64 (num k (X k)).1) (.int .i64 (num k (X k)).2)
          have HBX := (HB9.setCell (p := ⟨w.heap.size + 1, 0, none⟩) (Nat.le_refl _) (.int .i64 (num k (X k)).1)).setCell (p := ⟨w.heap.size + 1, 1, none⟩) (Nat.le_refl _) (.int .i64 (num k (X k)).2)
          clear bm9
          go_wp2_with fail
          go_roundw
          case rel => exact ⟨k + 1, by omega, by go_num, by rw [HN1.out], by rw [HN1.out]; exact bmX, HBX⟩
          case measure => simp [intOf] <;> omega
    · obtain rfl : k = L.length := by omega
      go_wp2_with fail
      go_ret
      exact ⟨rfl, HBW⟩
set_option maxRecDepth 20000 in
set_option maxHeartbeats 4000000 in
theorem l8ChosenO_c {L : List Mkd} {a b : Int} {num : Nat → Nat → Int × Int} {f : Nat → List (Int × Int)} (hok : ArmsOk L a b) (hnum : NumOk L num) (hf : NumR L num f) {X : Nat → Nat} (hX : AtOk L X) (A : Option Addr) (c : Nat) (AU : Option Addr) (cU : Nat) (AN : Option Addr) (cN : Nat) (B : Option Addr) (cb : Nat) (w : World)
    (h : RdMs w A L) (hN : RdN w AN L.length f) (hB : Rd w B (ints (atL L.length X))) :
    Calls Try.prog 129 #[gmV A c AU cU AN cN L.length a b, .slice B L.length cb, .int .i64 3] w (Quietly w (.int .i64 (choX L num true X))) := by
  unfold gmV
  have HB1 : Below w.heap.size w ((w.alloc (.cells #[.slice A L.length c, .slice AU L.length cU, .slice AN L.length cN, .int .i64 a, .int .i64 b] 101)).alloc (.cells #[.int .i64 0, .int .i64 1] 31)) := ((Below.refl _ _).alloc (Nat.le_refl _) _).alloc (by simp) _
  have bx := (Bx5.new w (.slice A L.length c) (.slice AU L.length cU) (.slice AN L.length cN) (.int .i64 a) (.int .i64 b) 101).keep (w' := (w.alloc (.cells #[.slice A L.length c, .slice AU L.length cU, .slice AN L.length cN, .int .i64 a, .int .i64 b] 101)).alloc (.cells #[.int .i64 0, .int .i64 1] 31)) (fun q hq => ((Below.refl (w.alloc (.cells #[.slice A L.length c, .slice AU L.length cU, .slice AN L.length cN, .int .i64 a, .int .i64 b] 101)).heap.size _).alloc (Nat.le_refl _) _).cell hq)
  have bm := Bx.new (w.alloc (.cells #[.slice A L.length c, .slice AU L.length cU, .slice AN L.length cN, .int .i64 a, .int .i64 b] 101)) (.int .i64 0) (.int .i64 1) 31
  simp only [World.size_alloc] at bm
  have BX := Lib.hid bx
  have BM := Lib.hid bm
  clear bx bm
  have hn3 := hok.n3
  go_enter Try.func129, Try.ntmps129
  go_wp2_with fail
  have hz : w.heap.size + 2 = ((w.alloc (.cells #[.slice A L.length c, .slice AU L.length cU, .slice AN L.length cN, .int .i64 a, .int .i64 b] 101)).alloc (.cells #[.int .i64 0, .int .i64 1] 31)).heap.size := by simp
  have HZ := Lib.hid hz
  clear hz
  generalize (w.alloc (.cells #[.slice A L.length c, .slice AU L.length cU, .slice AN L.length cN, .int .i64 a, .int .i64 b] 101)).alloc (.cells #[.int .i64 0, .int .i64 1] 31) = u at *
  go_loopw [7, 9] (fun q j wr => ∃ k : Nat, k ≤ L.length ∧ j = .int .i64 (k : Int) ∧ q = .int .i64 (choT L num true X k).1 ∧ Bx wr (w.heap.size + 1) (.int .i64 (choT L num true X k).2.1) (.int .i64 (choT L num true X k).2.2) ∧ Below (w.heap.size + 1) u wr) (fun _ j _ => L.length - (intOf j).toNat)
  case atStart => exact ⟨0, by omega, rfl, rfl, BM.out, Below.refl _ _⟩
  case round =>
    obtain ⟨v, rfl⟩ : ∃ v : World, v = wr := ⟨_, rfl⟩
    obtain ⟨k, hk, rfl, rfl, bm, HB⟩ := hrel
    have HBW : Below w.heap.size w v := HB1.trans (HB.mono (Nat.le_succ _))
    by_cases hlt : k < L.length
    · obtain ⟨ad, A1, c1, A2, c2, A3, c3, rfl, p1, p2, p3, _, t2, _⟩ := (h.below HBW (Nat.le_refl _)) k hlt
      have hwl := (hok.arm hlt).tree.len
      have hxk := hX k hlt
      obtain ⟨aw, rfl, qw⟩ := t2.intN (k := X k) (by omega)
      have p2' := cellOff 1 (by omega) p2
      rw [hwl] at p2'
      obtain ⟨ax, rfl, qx⟩ := (hB.below HBW (Nat.le_refl _)).intN (k := k) (by rw [atL_len]; exact hlt)
      rw [atL_nth hlt] at qx
      have g0 := (HB.cell (p := ⟨w.heap.size, 0, none⟩) (Nat.lt_succ_self _)).trans BX.out.c0
      have hzv : w.heap.size + 1 < v.heap.size := bm.2.2.2.2
      clear p1 p2 p3 t2 hwl
      cases hc : canX L X k
      · have e1 := can_w hok hX hlt hc
        have HN1 := Lib.hid (choT_no1 (num := num) (one := true) hc)
        clear hc
        go_upto_region 6 with fail
        have hd4 : Below v.heap.size v v.drew := Below.drew (Below.refl _ _)
        have SK4 : Hid (∀ w', Below v.heap.size v w' → w'.cell? ⟨w.heap.size, 0, none⟩ = some (.slice (some ad) L.length c) ∧ w'.cell? ⟨(ad.add (k * 3)).block, (ad.add (k * 3)).off + 1, none⟩ = some (.slice (some aw) (mAt L k).P.length c2) ∧ w'.cell? (aw.add (X k)) = some (.int .i64 (nth (mAt L k).W (X k)))) := Lib.hid fun w' HV => ⟨(HV.cell (cell_lt g0)).trans g0, (HV.cell (cell_lt p2')).trans p2', (HV.cell (cell_lt qw)).trans qw⟩
        clear g0 p2' qw
        have hS4_0 := SK4.out _ hd4
        refine tamed_region (S := fun w' => w'.cell? ⟨w.heap.size, 0, none⟩ = some (.slice (some ad) L.length c) ∧ w'.cell? ⟨(ad.add (k * 3)).block, (ad.add (k * 3)).off + 1, none⟩ = some (.slice (some aw) (mAt L k).P.length c2) ∧ w'.cell? (aw.add (X k)) = some (.int .i64 (nth (mAt L k).W (X k)))) (fun _ => false) (by kernel_rfl) ?_
        refine tame0 (k := 0) ?_ rfl (by kernel_rfl) (by kernel_rfl) (by kernel_rfl) (fun _ _ _ h => h) (by kernel_rfl) (fun v => ?_) ?_
        rotate_left
        · (go_simp; all_goals rfl)
        simp only [Act.put, List.setIfInBounds_toArray]
        refine tame (k := 1) ?_ rfl (by kernel_rfl) (by kernel_rfl) (by kernel_rfl) (by kernel_rfl) (fun _ _ _ h => h) (by kernel_rfl) hS4_0 (fun v hv => ?_) ?_
        rotate_left
        · (obtain ⟨k1, k2, k3⟩ := hv; go_simp; all_goals rfl)
        simp only [Act.put]
        refine tame0 (k := 2) ?_ rfl (by kernel_rfl) (by kernel_rfl) (by kernel_rfl) (fun _ _ _ h => h) (by kernel_rfl) (fun v => ?_) ?_
        rotate_left
        · (go_simp; all_goals rfl)
        simp only [Act.put]
        refine tame0 (k := 3) ?_ rfl (by kernel_rfl) (by kernel_rfl) (by kernel_rfl) (fun _ _ _ h => h) (by kernel_rfl) (fun v => ?_) ?_
        rotate_left
        · (go_simp; all_goals rfl)
        simp only [Act.put]
        refine tame0 (k := 4) ?_ rfl (by kernel_rfl) (by kernel_rfl) (by kernel_rfl) (fun _ _ _ h => h) (by kernel_rfl) (fun v => ?_) ?_
        rotate_left
        · (go_simp; all_goals rfl)
        simp only [Act.put]
        refine tame0 (k := 5) ?_ rfl (by kernel_rfl) (by kernel_rfl) (by kernel_rfl) (fun _ _ _ h => h) (by kernel_rfl) (fun v => ?_) ?_
        rotate_left
        · (go_simp; all_goals rfl)
        simp only [Act.put]
        refine tame (k := 6) ?_ rfl (by kernel_rfl) (by kernel_rfl) (by kernel_rfl) (by kernel_rfl) (fun _ _ _ h => h) (by kernel_rfl) hS4_0 (fun v hv => ?_) ?_
        rotate_left
        · (obtain ⟨k1, k2, k3⟩ := hv; go_simp; all_goals rfl)
        simp only [Act.put]
        refine tame0 (k := 7) ?_ rfl (by kernel_rfl) (by kernel_rfl) (by kernel_rfl) (fun _ _ _ h => h) (by kernel_rfl) (fun v => ?_) ?_
        rotate_left
        · (go_simp; all_goals rfl)
        simp only [Act.put]
        refine tame0 (k := 8) ?_ rfl (by kernel_rfl) (by kernel_rfl) (by kernel_rfl) (fun _ _ _ h => h) (by kernel_rfl) (fun v => ?_) ?_
        rotate_left
        · (go_simp; all_goals rfl)
        simp only [Act.put]
        refine tame (k := 9) ?_ rfl (by kernel_rfl) (by kernel_rfl) (by kernel_rfl) (by kernel_rfl) (fun _ _ _ h => h) (by kernel_rfl) hS4_0 (fun v hv => ?_) ?_
        rotate_left
        · (obtain ⟨k1, k2, k3⟩ := hv; go_simp; all_goals rfl)
        simp only [Act.put]
        refine tame0 (k := 10) ?_ rfl (by kernel_rfl) (by kernel_rfl) (by kernel_rfl) (fun _ _ _ h => h) (by kernel_rfl) (fun v => ?_) ?_
        rotate_left
        · (go_simp; all_goals rfl)
        simp only [Act.put]
        refine tame0 (k := 11) ?_ rfl (by kernel_rfl) (by kernel_rfl) (by kernel_rfl) (fun _ _ _ h => h) (by kernel_rfl) (fun v => ?_) ?_
        rotate_left
        · (go_simp; all_goals rfl)
        simp only [Act.put]
        refine tame_no (k := 12) rfl (by kernel_rfl) (by kernel_rfl) (by kernel_rfl) (fun _ _ _ h => h) (by kernel_rfl) ?_
        simp only [Act.put]
        refine tame_no (k := 13) rfl (by kernel_rfl) (by kernel_rfl) (by kernel_rfl) (fun _ _ _ h => h) (by kernel_rfl) ?_
        simp only [Act.put]
        refine tame_no (k := 14) rfl (by kernel_rfl) (by kernel_rfl) (by kernel_rfl) (fun _ _ _ h => h) (by kernel_rfl) ?_
        simp only [Act.put]
        refine tame_no (k := 15) rfl (by kernel_rfl) (by kernel_rfl) (by kernel_rfl) (fun _ _ _ h => h) (by kernel_rfl) ?_
        simp only [Act.put]
        refine tame_no (k := 16) rfl (by kernel_rfl) (by kernel_rfl) (by kernel_rfl) (fun _ _ _ h => h) (by kernel_rfl) ?_
        simp only [Act.put]
        refine tame_no (k := 17) rfl (by kernel_rfl) (by kernel_rfl) (by kernel_rfl) (fun _ _ _ h => h) (by kernel_rfl) ?_
        simp only [Act.put]
        refine tame_no (k := 18) rfl (by kernel_rfl) (by kernel_rfl) (by kernel_rfl) (fun _ _ _ h => h) (by kernel_rfl) ?_
        simp only [Act.put]
        refine tame_no (k := 19) rfl (by kernel_rfl) (by kernel_rfl) (by kernel_rfl) (fun _ _ _ h => h) (by kernel_rfl) ?_
        simp only [Act.put]
        refine tame_no (k := 20) rfl (by kernel_rfl) (by kernel_rfl) (by kernel_rfl) (fun _ _ _ h => h) (by kernel_rfl) ?_
        simp only [Act.put]
        refine tame_no (k := 21) rfl (by kernel_rfl) (by kernel_rfl) (by kernel_rfl) (fun _ _ _ h => h) (by kernel_rfl) ?_
        simp only [Act.put]
        refine tame0 (k := 22) ?_ rfl (by kernel_rfl) (by kernel_rfl) (by kernel_rfl) (fun _ _ _ h => h) (by kernel_rfl) (fun v => ?_) ?_
        rotate_left
        · (go_simp; all_goals rfl)
        simp only [Act.put]
        refine tame0 (k := 23) ?_ rfl (by kernel_rfl) (by kernel_rfl) (by kernel_rfl) (fun _ _ _ h => h) (by kernel_rfl) (fun v => ?_) ?_
        rotate_left
        · (go_simp; all_goals rfl)
        simp only [Act.put]
        refine tame_no (k := 24) rfl (by kernel_rfl) (by kernel_rfl) (by kernel_rfl) (fun _ _ _ h => h) (by kernel_rfl) ?_
        simp only [Act.put]
        refine tame_no (k := 25) rfl (by kernel_rfl) (by kernel_rfl) (by kernel_rfl) (fun _ _ _ h => h) (by kernel_rfl) ?_
        simp only [Act.put]
        refine tame_no (k := 26) rfl (by kernel_rfl) (by kernel_rfl) (by kernel_rfl) (fun _ _ _ h => h) (by kernel_rfl) ?_
        simp only [Act.put]
        refine tame_no (k := 27) rfl (by kernel_rfl) (by kernel_rfl) (by kernel_rfl) (fun _ _ _ h => h) (by kernel_rfl) ?_
        simp only [Act.put]
        refine tame_no (k := 28) rfl (by kernel_rfl) (by kernel_rfl) (by kernel_rfl) (fun _ _ _ h => h) (by kernel_rfl) ?_
        simp only [Act.put]
        refine tame_no (k := 29) rfl (by kernel_rfl) (by kernel_rfl) (by kernel_rfl) (fun _ _ _ h => h) (by kernel_rfl) ?_
        simp only [Act.put]
        have hS4_0v := Lib.hid hS4_0
        clear hS4_0
        refine tame_one (k := 30) (by kernel_rfl) rfl (by kernel_rfl) ?_
        go_simp
        refine ⟨by first | exact hS4_0v | exact Hid.out hS4_0v, ?_⟩
        refine tame_end (by kernel_rfl) ?_
        have bm9 := bm.below hd4
        have HB9 := bUp HB hd4 (by omega)
        clear bm
        go_wp2_with fail
        go_roundw
        case rel => exact ⟨k + 1, by omega, by go_num, by rw [HN1.out], by rw [HN1.out]; exact bm9, HB9⟩
        case measure => simp [intOf] <;> omega
      · have e1 := can_w hok hX hlt hc
        obtain ⟨an, AR, cr, rfl, n1, rr⟩ := (hN.below HBW) k hlt
        obtain ⟨hfl, hfx⟩ := hf k hlt
        have hfx := hfx (X k) hxk
        obtain ⟨y0, y1⟩ := pcells_get (f k) (X k) (by omega)
        obtain ⟨ar, rfl, r0⟩ := rr _ _ y0
        obtain ⟨_, er, r1⟩ := rr _ _ y1
        injection er with er
        subst er
        change _ = some (Value.int .i64 (nP (f k) (X k)).1) at r0
        change _ = some (Value.int .i64 (nP (f k) (X k)).2) at r1
        rw [hfx] at r0 r1
        rw [hfl] at n1
        have r1' := cellOff 1 (by omega) r1
        have g2 := (HB.cell (p := ⟨w.heap.size, 2, none⟩) (Nat.lt_succ_self _)).trans BX.out.c2
        have m0 := bm.1
        have m1 := bm.2.1
        have hms := hnum.most (one := true) hX hk
        have hnm := hnum k (X k) hlt hxk
        have hnk : (X k : Int) < ((mAt L k).P.length : Int) := by omega
        clear y0 y1 rr hfl hfx r1
        obtain ⟨Q, hQ⟩ : ∃ Q, Q = lessP (choT L num true X k).2 (num k (X k)) := ⟨_, rfl⟩
        have HQ : Hid (decide ((choT L num true X k).2.1 * (num k (X k)).2 < (num k (X k)).1 * (choT L num true X k).2.2) = Q) := Lib.hid (by rw [hQ]; rfl)
        have CC := Lib.hid (fun (w9 : World) => l2Less_is (choT L num true X k).2.1 (choT L num true X k).2.2 (num k (X k)).1 (num k (X k)).2 Q HQ.out (by omega) (by omega) (by omega) (by omega) (by omega) (by omega) (by omega) (by omega) w9)
        clear hms hnm HQ
        cases Q
        · have HN1 := Lib.hid (choT_no2 (one := true) hQ.symm)
          clear hc hQ
          go_upto_region 6 with fail
          have hd5 : Below v.heap.size v v.drew := Below.drew (Below.refl _ _)
          have SK5 : Hid (∀ w', Below v.heap.size v w' → w'.cell? ⟨w.heap.size, 0, none⟩ = some (.slice (some ad) L.length c) ∧ w'.cell? ⟨(ad.add (k * 3)).block, (ad.add (k * 3)).off + 1, none⟩ = some (.slice (some aw) (mAt L k).P.length c2) ∧ w'.cell? (aw.add (X k)) = some (.int .i64 (nth (mAt L k).W (X k))) ∧ w'.cell? ⟨w.heap.size, 2, none⟩ = some (.slice (some an) L.length cN) ∧ w'.cell? (an.add k) = some (.slice (some ar) (mAt L k).P.length cr) ∧ w'.cell? (ar.add (X k * 2)) = some (.int .i64 (num k (X k)).1) ∧ w'.cell? ⟨(ar.add (X k * 2)).block, (ar.add (X k * 2)).off + 1, none⟩ = some (.int .i64 (num k (X k)).2) ∧ w'.cell? ⟨w.heap.size + 1, 0, none⟩ = some (.int .i64 (choT L num true X k).2.1) ∧ w'.cell? ⟨w.heap.size + 1, 1, none⟩ = some (.int .i64 (choT L num true X k).2.2)) := Lib.hid fun w' HV => ⟨(HV.cell (cell_lt g0)).trans g0, (HV.cell (cell_lt p2')).trans p2', (HV.cell (cell_lt qw)).trans qw, (HV.cell (cell_lt g2)).trans g2, (HV.cell (cell_lt n1)).trans n1, (HV.cell (cell_lt r0)).trans r0, (HV.cell (cell_lt r1')).trans r1', (HV.cell (cell_lt m0)).trans m0, (HV.cell (cell_lt m1)).trans m1⟩
          clear g0 p2' qw g2 n1 r0 r1' m0 m1
          have hS5_0 := SK5.out _ hd5
          refine tamed_region (S := fun w' => w'.cell? ⟨w.heap.size, 0, none⟩ = some (.slice (some ad) L.length c) ∧ w'.cell? ⟨(ad.add (k * 3)).block, (ad.add (k * 3)).off + 1, none⟩ = some (.slice (some aw) (mAt L k).P.length c2) ∧ w'.cell? (aw.add (X k)) = some (.int .i64 (nth (mAt L k).W (X k))) ∧ w'.cell? ⟨w.heap.size, 2, none⟩ = some (.slice (some an) L.length cN) ∧ w'.cell? (an.add k) = some (.slice (some ar) (mAt L k).P.length cr) ∧ w'.cell? (ar.add (X k * 2)) = some (.int .i64 (num k (X k)).1) ∧ w'.cell? ⟨(ar.add (X k * 2)).block, (ar.add (X k * 2)).off + 1, none⟩ = some (.int .i64 (num k (X k)).2) ∧ w'.cell? ⟨w.heap.size + 1, 0, none⟩ = some (.int .i64 (choT L num true X k).2.1) ∧ w'.cell? ⟨w.heap.size + 1, 1, none⟩ = some (.int .i64 (choT L num true X k).2.2)) (fun _ => false) (by kernel_rfl) ?_
          refine tame0 (k := 0) ?_ rfl (by kernel_rfl) (by kernel_rfl) (by kernel_rfl) (fun _ _ _ h => h) (by kernel_rfl) (fun v => ?_) ?_
          rotate_left
          · (go_simp; all_goals rfl)
          simp only [Act.put, List.setIfInBounds_toArray]
          refine tame (k := 1) ?_ rfl (by kernel_rfl) (by kernel_rfl) (by kernel_rfl) (by kernel_rfl) (fun _ _ _ h => h) (by kernel_rfl) hS5_0 (fun v hv => ?_) ?_
          rotate_left
          · (obtain ⟨k1, k2, k3, k4, k5, k6, k7, k8, k9⟩ := hv; go_simp; all_goals rfl)
          simp only [Act.put]
          refine tame0 (k := 2) ?_ rfl (by kernel_rfl) (by kernel_rfl) (by kernel_rfl) (fun _ _ _ h => h) (by kernel_rfl) (fun v => ?_) ?_
          rotate_left
          · (go_simp; all_goals rfl)
          simp only [Act.put]
          refine tame0 (k := 3) ?_ rfl (by kernel_rfl) (by kernel_rfl) (by kernel_rfl) (fun _ _ _ h => h) (by kernel_rfl) (fun v => ?_) ?_
          rotate_left
          · (go_simp; all_goals rfl)
          simp only [Act.put]
          refine tame0 (k := 4) ?_ rfl (by kernel_rfl) (by kernel_rfl) (by kernel_rfl) (fun _ _ _ h => h) (by kernel_rfl) (fun v => ?_) ?_
          rotate_left
          · (go_simp; all_goals rfl)
          simp only [Act.put]
          refine tame0 (k := 5) ?_ rfl (by kernel_rfl) (by kernel_rfl) (by kernel_rfl) (fun _ _ _ h => h) (by kernel_rfl) (fun v => ?_) ?_
          rotate_left
          · (go_simp; all_goals rfl)
          simp only [Act.put]
          refine tame (k := 6) ?_ rfl (by kernel_rfl) (by kernel_rfl) (by kernel_rfl) (by kernel_rfl) (fun _ _ _ h => h) (by kernel_rfl) hS5_0 (fun v hv => ?_) ?_
          rotate_left
          · (obtain ⟨k1, k2, k3, k4, k5, k6, k7, k8, k9⟩ := hv; go_simp; all_goals rfl)
          simp only [Act.put]
          refine tame0 (k := 7) ?_ rfl (by kernel_rfl) (by kernel_rfl) (by kernel_rfl) (fun _ _ _ h => h) (by kernel_rfl) (fun v => ?_) ?_
          rotate_left
          · (go_simp; all_goals rfl)
          simp only [Act.put]
          refine tame0 (k := 8) ?_ rfl (by kernel_rfl) (by kernel_rfl) (by kernel_rfl) (fun _ _ _ h => h) (by kernel_rfl) (fun v => ?_) ?_
          rotate_left
          · (go_simp; all_goals rfl)
          simp only [Act.put]
          refine tame (k := 9) ?_ rfl (by kernel_rfl) (by kernel_rfl) (by kernel_rfl) (by kernel_rfl) (fun _ _ _ h => h) (by kernel_rfl) hS5_0 (fun v hv => ?_) ?_
          rotate_left
          · (obtain ⟨k1, k2, k3, k4, k5, k6, k7, k8, k9⟩ := hv; go_simp; all_goals rfl)
          simp only [Act.put]
          refine tame0 (k := 10) ?_ rfl (by kernel_rfl) (by kernel_rfl) (by kernel_rfl) (fun _ _ _ h => h) (by kernel_rfl) (fun v => ?_) ?_
          rotate_left
          · (go_simp; all_goals rfl)
          simp only [Act.put]
          refine tame0 (k := 11) ?_ rfl (by kernel_rfl) (by kernel_rfl) (by kernel_rfl) (fun _ _ _ h => h) (by kernel_rfl) (fun v => ?_) ?_
          rotate_left
          · (go_simp; all_goals rfl)
          simp only [Act.put]
          refine tame (k := 12) ?_ rfl (by kernel_rfl) (by kernel_rfl) (by kernel_rfl) (by kernel_rfl) (fun _ _ _ h => h) (by kernel_rfl) hS5_0 (fun v hv => ?_) ?_
          rotate_left
          · (obtain ⟨k1, k2, k3, k4, k5, k6, k7, k8, k9⟩ := hv; go_simp; all_goals rfl)
          simp only [Act.put]
          refine tame0 (k := 13) ?_ rfl (by kernel_rfl) (by kernel_rfl) (by kernel_rfl) (fun _ _ _ h => h) (by kernel_rfl) (fun v => ?_) ?_
          rotate_left
          · (go_simp; all_goals rfl)
          simp only [Act.put]
          refine tame (k := 14) ?_ rfl (by kernel_rfl) (by kernel_rfl) (by kernel_rfl) (by kernel_rfl) (fun _ _ _ h => h) (by kernel_rfl) hS5_0 (fun v hv => ?_) ?_
          rotate_left
          · (obtain ⟨k1, k2, k3, k4, k5, k6, k7, k8, k9⟩ := hv; go_simp; all_goals rfl)
          simp only [Act.put]
          refine tame0 (k := 15) ?_ rfl (by kernel_rfl) (by kernel_rfl) (by kernel_rfl) (fun _ _ _ h => h) (by kernel_rfl) (fun v => ?_) ?_
          rotate_left
          · (go_simp; all_goals rfl)
          simp only [Act.put]
          refine tame0 (k := 16) ?_ rfl (by kernel_rfl) (by kernel_rfl) (by kernel_rfl) (fun _ _ _ h => h) (by kernel_rfl) (fun v => ?_) ?_
          rotate_left
          · (go_simp; all_goals rfl)
          simp only [Act.put]
          refine tame (k := 17) ?_ rfl (by kernel_rfl) (by kernel_rfl) (by kernel_rfl) (by kernel_rfl) (fun _ _ _ h => h) (by kernel_rfl) hS5_0 (fun v hv => ?_) ?_
          rotate_left
          · (obtain ⟨k1, k2, k3, k4, k5, k6, k7, k8, k9⟩ := hv; go_simp; all_goals rfl)
          simp only [Act.put]
          refine tame0 (k := 18) ?_ rfl (by kernel_rfl) (by kernel_rfl) (by kernel_rfl) (fun _ _ _ h => h) (by kernel_rfl) (fun v => ?_) ?_
          rotate_left
          · (go_simp; all_goals rfl)
          simp only [Act.put]
          refine tame0 (k := 19) ?_ rfl (by kernel_rfl) (by kernel_rfl) (by kernel_rfl) (fun _ _ _ h => h) (by kernel_rfl) (fun v => ?_) ?_
          rotate_left
          · (go_simp; all_goals rfl)
          simp only [Act.put]
          refine tame (k := 20) ?_ rfl (by kernel_rfl) (by kernel_rfl) (by kernel_rfl) (by kernel_rfl) (fun _ _ _ h => h) (by kernel_rfl) hS5_0 (fun v hv => ?_) ?_
          rotate_left
          · (obtain ⟨k1, k2, k3, k4, k5, k6, k7, k8, k9⟩ := hv; go_simp; all_goals rfl)
          simp only [Act.put]
          refine tame_one (k := 21) (by kernel_rfl) rfl (by kernel_rfl) ?_
          go_simp
          refine (CC.out _).mono ?_
          rintro e v5 ⟨rfl, b5⟩
          have hd5_1 := bUp hd5 b5 (Nat.le_refl _)
          have hS5_1 := Lib.hid (SK5.out _ hd5_1)
          refine ⟨by first | exact hS5_1 | exact Hid.out hS5_1, ?_⟩
          refine tame0 (k := 22) ?_ rfl (by kernel_rfl) (by kernel_rfl) (by kernel_rfl) (fun _ _ _ h => h) (by kernel_rfl) (fun v => ?_) ?_
          rotate_left
          · (go_simp; all_goals rfl)
          simp only [Act.put]
          refine tame0 (k := 23) ?_ rfl (by kernel_rfl) (by kernel_rfl) (by kernel_rfl) (fun _ _ _ h => h) (by kernel_rfl) (fun v => ?_) ?_
          rotate_left
          · (go_simp; all_goals rfl)
          simp only [Act.put]
          refine tame_no (k := 24) rfl (by kernel_rfl) (by kernel_rfl) (by kernel_rfl) (fun _ _ _ h => h) (by kernel_rfl) ?_
          simp only [Act.put]
          refine tame_no (k := 25) rfl (by kernel_rfl) (by kernel_rfl) (by kernel_rfl) (fun _ _ _ h => h) (by kernel_rfl) ?_
          simp only [Act.put]
          refine tame_no (k := 26) rfl (by kernel_rfl) (by kernel_rfl) (by kernel_rfl) (fun _ _ _ h => h) (by kernel_rfl) ?_
          simp only [Act.put]
          refine tame_no (k := 27) rfl (by kernel_rfl) (by kernel_rfl) (by kernel_rfl) (fun _ _ _ h => h) (by kernel_rfl) ?_
          simp only [Act.put]
          refine tame_no (k := 28) rfl (by kernel_rfl) (by kernel_rfl) (by kernel_rfl) (fun _ _ _ h => h) (by kernel_rfl) ?_
          simp only [Act.put]
          refine tame_no (k := 29) rfl (by kernel_rfl) (by kernel_rfl) (by kernel_rfl) (fun _ _ _ h => h) (by kernel_rfl) ?_
          simp only [Act.put]
          refine tame_one (k := 30) (by kernel_rfl) rfl (by kernel_rfl) ?_
          go_simp
          refine ⟨by first | exact hS5_1 | exact Hid.out hS5_1, ?_⟩
          refine tame_end (by kernel_rfl) ?_
          have bm9 := bm.below hd5_1
          have HB9 := bUp HB hd5_1 (by omega)
          clear bm
          go_wp2_with fail
          go_roundw
          case rel => exact ⟨k + 1, by omega, by go_num, by rw [HN1.out], by rw [HN1.out]; exact bm9, HB9⟩
          case measure => simp [intOf] <;> omega
        · obtain ⟨bst, hbst⟩ : ∃ bst, bst = (choT L num true X k).1 := ⟨_, rfl⟩
          by_cases hneg : bst < 0
          · have HN1 := Lib.hid (choT_yes (one := true) hc hQ.symm (.inr (by rw [← hbst]; exact hneg)))
            have NN := Lib.hid (And.intro n1 (And.intro r0 r1'))
            rw [← hbst]
            clear hc hQ
            go_upto_region 6 with fail
            have hd6 : Below v.heap.size v v.drew := Below.drew (Below.refl _ _)
            have SK6 : Hid (∀ w', Below v.heap.size v w' → w'.cell? ⟨w.heap.size, 0, none⟩ = some (.slice (some ad) L.length c) ∧ w'.cell? ⟨(ad.add (k * 3)).block, (ad.add (k * 3)).off + 1, none⟩ = some (.slice (some aw) (mAt L k).P.length c2) ∧ w'.cell? (aw.add (X k)) = some (.int .i64 (nth (mAt L k).W (X k))) ∧ w'.cell? ⟨w.heap.size, 2, none⟩ = some (.slice (some an) L.length cN) ∧ w'.cell? (an.add k) = some (.slice (some ar) (mAt L k).P.length cr) ∧ w'.cell? (ar.add (X k * 2)) = some (.int .i64 (num k (X k)).1) ∧ w'.cell? ⟨(ar.add (X k * 2)).block, (ar.add (X k * 2)).off + 1, none⟩ = some (.int .i64 (num k (X k)).2) ∧ w'.cell? ⟨w.heap.size + 1, 0, none⟩ = some (.int .i64 (choT L num true X k).2.1) ∧ w'.cell? ⟨w.heap.size + 1, 1, none⟩ = some (.int .i64 (choT L num true X k).2.2)) := Lib.hid fun w' HV => ⟨(HV.cell (cell_lt g0)).trans g0, (HV.cell (cell_lt p2')).trans p2', (HV.cell (cell_lt qw)).trans qw, (HV.cell (cell_lt g2)).trans g2, (HV.cell (cell_lt n1)).trans n1, (HV.cell (cell_lt r0)).trans r0, (HV.cell (cell_lt r1')).trans r1', (HV.cell (cell_lt m0)).trans m0, (HV.cell (cell_lt m1)).trans m1⟩
            clear g0 p2' qw g2 n1 r0 r1' m0 m1
            have hS6_0 := SK6.out _ hd6
            refine tamed_region (S := fun w' => w'.cell? ⟨w.heap.size, 0, none⟩ = some (.slice (some ad) L.length c) ∧ w'.cell? ⟨(ad.add (k * 3)).block, (ad.add (k * 3)).off + 1, none⟩ = some (.slice (some aw) (mAt L k).P.length c2) ∧ w'.cell? (aw.add (X k)) = some (.int .i64 (nth (mAt L k).W (X k))) ∧ w'.cell? ⟨w.heap.size, 2, none⟩ = some (.slice (some an) L.length cN) ∧ w'.cell? (an.add k) = some (.slice (some ar) (mAt L k).P.length cr) ∧ w'.cell? (ar.add (X k * 2)) = some (.int .i64 (num k (X k)).1) ∧ w'.cell? ⟨(ar.add (X k * 2)).block, (ar.add (X k * 2)).off + 1, none⟩ = some (.int .i64 (num k (X k)).2) ∧ w'.cell? ⟨w.heap.size + 1, 0, none⟩ = some (.int .i64 (choT L num true X k).2.1) ∧ w'.cell? ⟨w.heap.size + 1, 1, none⟩ = some (.int .i64 (choT L num true X k).2.2)) (fun _ => false) (by kernel_rfl) ?_
            refine tame0 (k := 0) ?_ rfl (by kernel_rfl) (by kernel_rfl) (by kernel_rfl) (fun _ _ _ h => h) (by kernel_rfl) (fun v => ?_) ?_
            rotate_left
            · (go_simp; all_goals rfl)
            simp only [Act.put, List.setIfInBounds_toArray]
            refine tame (k := 1) ?_ rfl (by kernel_rfl) (by kernel_rfl) (by kernel_rfl) (by kernel_rfl) (fun _ _ _ h => h) (by kernel_rfl) hS6_0 (fun v hv => ?_) ?_
            rotate_left
            · (obtain ⟨k1, k2, k3, k4, k5, k6, k7, k8, k9⟩ := hv; go_simp; all_goals rfl)
            simp only [Act.put]
            refine tame0 (k := 2) ?_ rfl (by kernel_rfl) (by kernel_rfl) (by kernel_rfl) (fun _ _ _ h => h) (by kernel_rfl) (fun v => ?_) ?_
            rotate_left
            · (go_simp; all_goals rfl)
            simp only [Act.put]
            refine tame0 (k := 3) ?_ rfl (by kernel_rfl) (by kernel_rfl) (by kernel_rfl) (fun _ _ _ h => h) (by kernel_rfl) (fun v => ?_) ?_
            rotate_left
            · (go_simp; all_goals rfl)
            simp only [Act.put]
            refine tame0 (k := 4) ?_ rfl (by kernel_rfl) (by kernel_rfl) (by kernel_rfl) (fun _ _ _ h => h) (by kernel_rfl) (fun v => ?_) ?_
            rotate_left
            · (go_simp; all_goals rfl)
            simp only [Act.put]
            refine tame0 (k := 5) ?_ rfl (by kernel_rfl) (by kernel_rfl) (by kernel_rfl) (fun _ _ _ h => h) (by kernel_rfl) (fun v => ?_) ?_
            rotate_left
            · (go_simp; all_goals rfl)
            simp only [Act.put]
            refine tame (k := 6) ?_ rfl (by kernel_rfl) (by kernel_rfl) (by kernel_rfl) (by kernel_rfl) (fun _ _ _ h => h) (by kernel_rfl) hS6_0 (fun v hv => ?_) ?_
            rotate_left
            · (obtain ⟨k1, k2, k3, k4, k5, k6, k7, k8, k9⟩ := hv; go_simp; all_goals rfl)
            simp only [Act.put]
            refine tame0 (k := 7) ?_ rfl (by kernel_rfl) (by kernel_rfl) (by kernel_rfl) (fun _ _ _ h => h) (by kernel_rfl) (fun v => ?_) ?_
            rotate_left
            · (go_simp; all_goals rfl)
            simp only [Act.put]
            refine tame0 (k := 8) ?_ rfl (by kernel_rfl) (by kernel_rfl) (by kernel_rfl) (fun _ _ _ h => h) (by kernel_rfl) (fun v => ?_) ?_
            rotate_left
            · (go_simp; all_goals rfl)
            simp only [Act.put]
            refine tame (k := 9) ?_ rfl (by kernel_rfl) (by kernel_rfl) (by kernel_rfl) (by kernel_rfl) (fun _ _ _ h => h) (by kernel_rfl) hS6_0 (fun v hv => ?_) ?_
            rotate_left
            · (obtain ⟨k1, k2, k3, k4, k5, k6, k7, k8, k9⟩ := hv; go_simp; all_goals rfl)
            simp only [Act.put]
            refine tame0 (k := 10) ?_ rfl (by kernel_rfl) (by kernel_rfl) (by kernel_rfl) (fun _ _ _ h => h) (by kernel_rfl) (fun v => ?_) ?_
            rotate_left
            · (go_simp; all_goals rfl)
            simp only [Act.put]
            refine tame0 (k := 11) ?_ rfl (by kernel_rfl) (by kernel_rfl) (by kernel_rfl) (fun _ _ _ h => h) (by kernel_rfl) (fun v => ?_) ?_
            rotate_left
            · (go_simp; all_goals rfl)
            simp only [Act.put]
            refine tame (k := 12) ?_ rfl (by kernel_rfl) (by kernel_rfl) (by kernel_rfl) (by kernel_rfl) (fun _ _ _ h => h) (by kernel_rfl) hS6_0 (fun v hv => ?_) ?_
            rotate_left
            · (obtain ⟨k1, k2, k3, k4, k5, k6, k7, k8, k9⟩ := hv; go_simp; all_goals rfl)
            simp only [Act.put]
            refine tame0 (k := 13) ?_ rfl (by kernel_rfl) (by kernel_rfl) (by kernel_rfl) (fun _ _ _ h => h) (by kernel_rfl) (fun v => ?_) ?_
            rotate_left
            · (go_simp; all_goals rfl)
            simp only [Act.put]
            refine tame (k := 14) ?_ rfl (by kernel_rfl) (by kernel_rfl) (by kernel_rfl) (by kernel_rfl) (fun _ _ _ h => h) (by kernel_rfl) hS6_0 (fun v hv => ?_) ?_
            rotate_left
            · (obtain ⟨k1, k2, k3, k4, k5, k6, k7, k8, k9⟩ := hv; go_simp; all_goals rfl)
            simp only [Act.put]
            refine tame0 (k := 15) ?_ rfl (by kernel_rfl) (by kernel_rfl) (by kernel_rfl) (fun _ _ _ h => h) (by kernel_rfl) (fun v => ?_) ?_
            rotate_left
            · (go_simp; all_goals rfl)
            simp only [Act.put]
            refine tame0 (k := 16) ?_ rfl (by kernel_rfl) (by kernel_rfl) (by kernel_rfl) (fun _ _ _ h => h) (by kernel_rfl) (fun v => ?_) ?_
            rotate_left
            · (go_simp; all_goals rfl)
            simp only [Act.put]
            refine tame (k := 17) ?_ rfl (by kernel_rfl) (by kernel_rfl) (by kernel_rfl) (by kernel_rfl) (fun _ _ _ h => h) (by kernel_rfl) hS6_0 (fun v hv => ?_) ?_
            rotate_left
            · (obtain ⟨k1, k2, k3, k4, k5, k6, k7, k8, k9⟩ := hv; go_simp; all_goals rfl)
            simp only [Act.put]
            refine tame0 (k := 18) ?_ rfl (by kernel_rfl) (by kernel_rfl) (by kernel_rfl) (fun _ _ _ h => h) (by kernel_rfl) (fun v => ?_) ?_
            rotate_left
            · (go_simp; all_goals rfl)
            simp only [Act.put]
            refine tame0 (k := 19) ?_ rfl (by kernel_rfl) (by kernel_rfl) (by kernel_rfl) (fun _ _ _ h => h) (by kernel_rfl) (fun v => ?_) ?_
            rotate_left
            · (go_simp; all_goals rfl)
            simp only [Act.put]
            refine tame (k := 20) ?_ rfl (by kernel_rfl) (by kernel_rfl) (by kernel_rfl) (by kernel_rfl) (fun _ _ _ h => h) (by kernel_rfl) hS6_0 (fun v hv => ?_) ?_
            rotate_left
            · (obtain ⟨k1, k2, k3, k4, k5, k6, k7, k8, k9⟩ := hv; go_simp; all_goals rfl)
            simp only [Act.put]
            refine tame_one (k := 21) (by kernel_rfl) rfl (by kernel_rfl) ?_
            go_simp
            refine (CC.out _).mono ?_
            rintro e v5 ⟨rfl, b5⟩
            have hd6_1 := bUp hd6 b5 (Nat.le_refl _)
            have hS6_1 := Lib.hid (SK6.out _ hd6_1)
            refine ⟨by first | exact hS6_1 | exact Hid.out hS6_1, ?_⟩
            refine tame0 (k := 22) ?_ rfl (by kernel_rfl) (by kernel_rfl) (by kernel_rfl) (fun _ _ _ h => h) (by kernel_rfl) (fun v => ?_) ?_
            rotate_left
            · (go_simp; all_goals rfl)
            simp only [Act.put]
            refine tame0 (k := 23) ?_ rfl (by kernel_rfl) (by kernel_rfl) (by kernel_rfl) (fun _ _ _ h => h) (by kernel_rfl) (fun v => ?_) ?_
            rotate_left
            · (go_simp; all_goals rfl)
            simp only [Act.put]
            refine tame0 (k := 24) ?_ rfl (by kernel_rfl) (by kernel_rfl) (by kernel_rfl) (fun _ _ _ h => h) (by kernel_rfl) (fun v => ?_) ?_
            rotate_left
            · (go_simp; all_goals rfl)
            simp only [Act.put]
            refine tame0 (k := 25) ?_ rfl (by kernel_rfl) (by kernel_rfl) (by kernel_rfl) (fun _ _ _ h => h) (by kernel_rfl) (fun v => ?_) ?_
            rotate_left
            · (go_simp; all_goals rfl)
            simp only [Act.put]
            refine tame0 (k := 26) ?_ rfl (by kernel_rfl) (by kernel_rfl) (by kernel_rfl) (fun _ _ _ h => h) (by kernel_rfl) (fun v => ?_) ?_
            rotate_left
            · (go_simp; all_goals rfl)
            simp only [Act.put]
            refine tame0 (k := 27) ?_ rfl (by kernel_rfl) (by kernel_rfl) (by kernel_rfl) (fun _ _ _ h => h) (by kernel_rfl) (fun v => ?_) ?_
            rotate_left
            · (go_simp; all_goals rfl)
            simp only [Act.put]
            refine tame0 (k := 28) ?_ rfl (by kernel_rfl) (by kernel_rfl) (by kernel_rfl) (fun _ _ _ h => h) (by kernel_rfl) (fun v => ?_) ?_
            rotate_left
            · (go_simp; all_goals rfl)
            simp only [Act.put]
            refine tame0 (k := 29) ?_ rfl (by kernel_rfl) (by kernel_rfl) (by kernel_rfl) (fun _ _ _ h => h) (by kernel_rfl) (fun v => ?_) ?_
            rotate_left
            · (go_simp; all_goals rfl)
            simp only [Act.put]
            refine tame_one (k := 30) (by kernel_rfl) rfl (by kernel_rfl) ?_
            go_simp
            refine ⟨by first | exact hS6_1 | exact Hid.out hS6_1, ?_⟩
            refine tame_end (by kernel_rfl) ?_
            have bm9 := bm.below hd6_1
            have HB9 := bUp HB hd6_1 (by omega)
            have HB8 := HB1.trans (HB9.mono (Nat.le_succ _))
            clear bm
            obtain ⟨m0, m1, m2, m3, m4⟩ := id bm9
            have g2 := (HB9.cell (p := ⟨w.heap.size, 2, none⟩) (Nat.lt_succ_self _)).trans BX.out.c2
            have n1 := (hd6_1.cell (cell_lt NN.out.1)).trans NN.out.1
            have r0 := (hd6_1.cell (cell_lt NN.out.2.1)).trans NN.out.2.1
            have r1' := (hd6_1.cell (cell_lt NN.out.2.2)).trans NN.out.2.2
            have bmX := bx_put bm9 (.int .i64 (num k (X k)).1) (.int .i64 (num k (X k)).2)
            have HBX := (HB9.setCell (p := ⟨w.heap.size + 1, 0, none⟩) (Nat.le_refl _) (.int .i64 (num k (X k)).1)).setCell (p := ⟨w.heap.size + 1, 1, none⟩) (Nat.le_refl _) (.int .i64 (num k (X k)).2)
            clear bm9
            go_wp2_with fail
            go_roundw
            case rel => exact ⟨k + 1, by omega, by go_num, by rw [HN1.out], by rw [HN1.out]; exact bmX, HBX⟩
            case measure => simp [intOf] <;> omega
          · have HN1 := Lib.hid (choT_no3 (num := num) (one := true) rfl (by rw [← hbst]; exact hneg))
            rw [← hbst]
            have HBS := Lib.hid hbst
            have hneg' : decide (bst < 0) = false := by simpa using hneg
            clear hc hQ hbst
            go_upto_region 6 with fail
            have hd7 : Below v.heap.size v v.drew := Below.drew (Below.refl _ _)
            have SK7 : Hid (∀ w', Below v.heap.size v w' → w'.cell? ⟨w.heap.size, 0, none⟩ = some (.slice (some ad) L.length c) ∧ w'.cell? ⟨(ad.add (k * 3)).block, (ad.add (k * 3)).off + 1, none⟩ = some (.slice (some aw) (mAt L k).P.length c2) ∧ w'.cell? (aw.add (X k)) = some (.int .i64 (nth (mAt L k).W (X k))) ∧ w'.cell? ⟨w.heap.size, 2, none⟩ = some (.slice (some an) L.length cN) ∧ w'.cell? (an.add k) = some (.slice (some ar) (mAt L k).P.length cr) ∧ w'.cell? (ar.add (X k * 2)) = some (.int .i64 (num k (X k)).1) ∧ w'.cell? ⟨(ar.add (X k * 2)).block, (ar.add (X k * 2)).off + 1, none⟩ = some (.int .i64 (num k (X k)).2) ∧ w'.cell? ⟨w.heap.size + 1, 0, none⟩ = some (.int .i64 (choT L num true X k).2.1) ∧ w'.cell? ⟨w.heap.size + 1, 1, none⟩ = some (.int .i64 (choT L num true X k).2.2)) := Lib.hid fun w' HV => ⟨(HV.cell (cell_lt g0)).trans g0, (HV.cell (cell_lt p2')).trans p2', (HV.cell (cell_lt qw)).trans qw, (HV.cell (cell_lt g2)).trans g2, (HV.cell (cell_lt n1)).trans n1, (HV.cell (cell_lt r0)).trans r0, (HV.cell (cell_lt r1')).trans r1', (HV.cell (cell_lt m0)).trans m0, (HV.cell (cell_lt m1)).trans m1⟩
            clear g0 p2' qw g2 n1 r0 r1' m0 m1
            have hS7_0 := SK7.out _ hd7
            refine tamed_region (S := fun w' => w'.cell? ⟨w.heap.size, 0, none⟩ = some (.slice (some ad) L.length c) ∧ w'.cell? ⟨(ad.add (k * 3)).block, (ad.add (k * 3)).off + 1, none⟩ = some (.slice (some aw) (mAt L k).P.length c2) ∧ w'.cell? (aw.add (X k)) = some (.int .i64 (nth (mAt L k).W (X k))) ∧ w'.cell? ⟨w.heap.size, 2, none⟩ = some (.slice (some an) L.length cN) ∧ w'.cell? (an.add k) = some (.slice (some ar) (mAt L k).P.length cr) ∧ w'.cell? (ar.add (X k * 2)) = some (.int .i64 (num k (X k)).1) ∧ w'.cell? ⟨(ar.add (X k * 2)).block, (ar.add (X k * 2)).off + 1, none⟩ = some (.int .i64 (num k (X k)).2) ∧ w'.cell? ⟨w.heap.size + 1, 0, none⟩ = some (.int .i64 (choT L num true X k).2.1) ∧ w'.cell? ⟨w.heap.size + 1, 1, none⟩ = some (.int .i64 (choT L num true X k).2.2)) (fun _ => false) (by kernel_rfl) ?_
            refine tame0 (k := 0) ?_ rfl (by kernel_rfl) (by kernel_rfl) (by kernel_rfl) (fun _ _ _ h => h) (by kernel_rfl) (fun v => ?_) ?_
            rotate_left
            · (go_simp; all_goals rfl)
            simp only [Act.put, List.setIfInBounds_toArray]
            refine tame (k := 1) ?_ rfl (by kernel_rfl) (by kernel_rfl) (by kernel_rfl) (by kernel_rfl) (fun _ _ _ h => h) (by kernel_rfl) hS7_0 (fun v hv => ?_) ?_
            rotate_left
            · (obtain ⟨k1, k2, k3, k4, k5, k6, k7, k8, k9⟩ := hv; go_simp; all_goals rfl)
            simp only [Act.put]
            refine tame0 (k := 2) ?_ rfl (by kernel_rfl) (by kernel_rfl) (by kernel_rfl) (fun _ _ _ h => h) (by kernel_rfl) (fun v => ?_) ?_
            rotate_left
            · (go_simp; all_goals rfl)
            simp only [Act.put]
            refine tame0 (k := 3) ?_ rfl (by kernel_rfl) (by kernel_rfl) (by kernel_rfl) (fun _ _ _ h => h) (by kernel_rfl) (fun v => ?_) ?_
            rotate_left
            · (go_simp; all_goals rfl)
            simp only [Act.put]
            refine tame0 (k := 4) ?_ rfl (by kernel_rfl) (by kernel_rfl) (by kernel_rfl) (fun _ _ _ h => h) (by kernel_rfl) (fun v => ?_) ?_
            rotate_left
            · (go_simp; all_goals rfl)
            simp only [Act.put]
            refine tame0 (k := 5) ?_ rfl (by kernel_rfl) (by kernel_rfl) (by kernel_rfl) (fun _ _ _ h => h) (by kernel_rfl) (fun v => ?_) ?_
            rotate_left
            · (go_simp; all_goals rfl)
            simp only [Act.put]
            refine tame (k := 6) ?_ rfl (by kernel_rfl) (by kernel_rfl) (by kernel_rfl) (by kernel_rfl) (fun _ _ _ h => h) (by kernel_rfl) hS7_0 (fun v hv => ?_) ?_
            rotate_left
            · (obtain ⟨k1, k2, k3, k4, k5, k6, k7, k8, k9⟩ := hv; go_simp; all_goals rfl)
            simp only [Act.put]
            refine tame0 (k := 7) ?_ rfl (by kernel_rfl) (by kernel_rfl) (by kernel_rfl) (fun _ _ _ h => h) (by kernel_rfl) (fun v => ?_) ?_
            rotate_left
            · (go_simp; all_goals rfl)
            simp only [Act.put]
            refine tame0 (k := 8) ?_ rfl (by kernel_rfl) (by kernel_rfl) (by kernel_rfl) (fun _ _ _ h => h) (by kernel_rfl) (fun v => ?_) ?_
            rotate_left
            · (go_simp; all_goals rfl)
            simp only [Act.put]
            refine tame (k := 9) ?_ rfl (by kernel_rfl) (by kernel_rfl) (by kernel_rfl) (by kernel_rfl) (fun _ _ _ h => h) (by kernel_rfl) hS7_0 (fun v hv => ?_) ?_
            rotate_left
            · (obtain ⟨k1, k2, k3, k4, k5, k6, k7, k8, k9⟩ := hv; go_simp; all_goals rfl)
            simp only [Act.put]
            refine tame0 (k := 10) ?_ rfl (by kernel_rfl) (by kernel_rfl) (by kernel_rfl) (fun _ _ _ h => h) (by kernel_rfl) (fun v => ?_) ?_
            rotate_left
            · (go_simp; all_goals rfl)
            simp only [Act.put]
            refine tame0 (k := 11) ?_ rfl (by kernel_rfl) (by kernel_rfl) (by kernel_rfl) (fun _ _ _ h => h) (by kernel_rfl) (fun v => ?_) ?_
            rotate_left
            · (go_simp; all_goals rfl)
            simp only [Act.put]
            refine tame (k := 12) ?_ rfl (by kernel_rfl) (by kernel_rfl) (by kernel_rfl) (by kernel_rfl) (fun _ _ _ h => h) (by kernel_rfl) hS7_0 (fun v hv => ?_) ?_
            rotate_left
            · (obtain ⟨k1, k2, k3, k4, k5, k6, k7, k8, k9⟩ := hv; go_simp; all_goals rfl)
            simp only [Act.put]
            refine tame0 (k := 13) ?_ rfl (by kernel_rfl) (by kernel_rfl) (by kernel_rfl) (fun _ _ _ h => h) (by kernel_rfl) (fun v => ?_) ?_
            rotate_left
            · (go_simp; all_goals rfl)
            simp only [Act.put]
            refine tame (k := 14) ?_ rfl (by kernel_rfl) (by kernel_rfl) (by kernel_rfl) (by kernel_rfl) (fun _ _ _ h => h) (by kernel_rfl) hS7_0 (fun v hv => ?_) ?_
            rotate_left
            · (obtain ⟨k1, k2, k3, k4, k5, k6, k7, k8, k9⟩ := hv; go_simp; all_goals rfl)
            simp only [Act.put]
            refine tame0 (k := 15) ?_ rfl (by kernel_rfl) (by kernel_rfl) (by kernel_rfl) (fun _ _ _ h => h) (by kernel_rfl) (fun v => ?_) ?_
            rotate_left
            · (go_simp; all_goals rfl)
            simp only [Act.put]
            refine tame0 (k := 16) ?_ rfl (by kernel_rfl) (by kernel_rfl) (by kernel_rfl) (fun _ _ _ h => h) (by kernel_rfl) (fun v => ?_) ?_
            rotate_left
            · (go_simp; all_goals rfl)
            simp only [Act.put]
            refine tame (k := 17) ?_ rfl (by kernel_rfl) (by kernel_rfl) (by kernel_rfl) (by kernel_rfl) (fun _ _ _ h => h) (by kernel_rfl) hS7_0 (fun v hv => ?_) ?_
            rotate_left
            · (obtain ⟨k1, k2, k3, k4, k5, k6, k7, k8, k9⟩ := hv; go_simp; all_goals rfl)
            simp only [Act.put]
            refine tame0 (k := 18) ?_ rfl (by kernel_rfl) (by kernel_rfl) (by kernel_rfl) (fun _ _ _ h => h) (by kernel_rfl) (fun v => ?_) ?_
            rotate_left
            · (go_simp; all_goals rfl)
            simp only [Act.put]
            refine tame0 (k := 19) ?_ rfl (by kernel_rfl) (by kernel_rfl) (by kernel_rfl) (fun _ _ _ h => h) (by kernel_rfl) (fun v => ?_) ?_
            rotate_left
            · (go_simp; all_goals rfl)
            simp only [Act.put]
            refine tame (k := 20) ?_ rfl (by kernel_rfl) (by kernel_rfl) (by kernel_rfl) (by kernel_rfl) (fun _ _ _ h => h) (by kernel_rfl) hS7_0 (fun v hv => ?_) ?_
            rotate_left
            · (obtain ⟨k1, k2, k3, k4, k5, k6, k7, k8, k9⟩ := hv; go_simp; all_goals rfl)
            simp only [Act.put]
            refine tame_one (k := 21) (by kernel_rfl) rfl (by kernel_rfl) ?_
            go_simp
            refine (CC.out _).mono ?_
            rintro e v5 ⟨rfl, b5⟩
            have hd7_1 := bUp hd7 b5 (Nat.le_refl _)
            have hS7_1 := Lib.hid (SK7.out _ hd7_1)
            refine ⟨by first | exact hS7_1 | exact Hid.out hS7_1, ?_⟩
            refine tame0 (k := 22) ?_ rfl (by kernel_rfl) (by kernel_rfl) (by kernel_rfl) (fun _ _ _ h => h) (by kernel_rfl) (fun v => ?_) ?_
            rotate_left
            · (go_simp; all_goals rfl)
            simp only [Act.put]
            refine tame0 (k := 23) ?_ rfl (by kernel_rfl) (by kernel_rfl) (by kernel_rfl) (fun _ _ _ h => h) (by kernel_rfl) (fun v => ?_) ?_
            rotate_left
            · (go_simp; all_goals rfl)
            simp only [Act.put]
            refine tame0 (k := 24) ?_ rfl (by kernel_rfl) (by kernel_rfl) (by kernel_rfl) (fun _ _ _ h => h) (by kernel_rfl) (fun v => ?_) ?_
            rotate_left
            · (go_simp; all_goals rfl)
            simp only [Act.put]
            refine tame0 (k := 25) ?_ rfl (by kernel_rfl) (by kernel_rfl) (by kernel_rfl) (fun _ _ _ h => h) (by kernel_rfl) (fun v => ?_) ?_
            rotate_left
            · (go_simp; all_goals rfl)
            simp only [Act.put]
            refine tame0 (k := 26) ?_ rfl (by kernel_rfl) (by kernel_rfl) (by kernel_rfl) (fun _ _ _ h => h) (by kernel_rfl) (fun v => ?_) ?_
            rotate_left
            · (go_simp; all_goals rfl)
            simp only [Act.put]
            refine tame0 (k := 27) ?_ rfl (by kernel_rfl) (by kernel_rfl) (by kernel_rfl) (fun _ _ _ h => h) (by kernel_rfl) (fun v => ?_) ?_
            rotate_left
            · (go_simp; all_goals rfl)
            simp only [Act.put]
            refine tame0 (k := 28) ?_ rfl (by kernel_rfl) (by kernel_rfl) (by kernel_rfl) (fun _ _ _ h => h) (by kernel_rfl) (fun v => ?_) ?_
            rotate_left
            · (go_simp; all_goals rfl)
            simp only [Act.put]
            refine tame0 (k := 29) ?_ rfl (by kernel_rfl) (by kernel_rfl) (by kernel_rfl) (fun _ _ _ h => h) (by kernel_rfl) (fun v => ?_) ?_
            rotate_left
            · (go_simp; all_goals rfl)
            simp only [Act.put]
            refine tame_one (k := 30) (by kernel_rfl) rfl (by kernel_rfl) ?_
            go_simp
            refine ⟨by first | exact hS7_1 | exact Hid.out hS7_1, ?_⟩
            refine tame_end (by kernel_rfl) ?_
            have bm9 := bm.below hd7_1
            have HB9 := bUp HB hd7_1 (by omega)
            clear bm
            go_wp2_with fail
            go_roundw
            case rel => exact ⟨k + 1, by omega, by go_num, by rw [HN1.out, HBS.out], by rw [HN1.out]; exact bm9, HB9⟩
            case measure => simp [intOf] <;> omega
    · obtain rfl : k = L.length := by omega
      go_wp2_with fail
      go_ret
      exact ⟨rfl, HBW⟩

set_option maxRecDepth 20000 in
set_option maxHeartbeats 4000000 in
theorem l8ValueP_c {L : List Mkd} {a b way : Int} {num : Nat → Nat → Int × Int} {one : Bool} (hw0 : way ≠ 0) (hok : ArmsOk L a b) (A : Option Addr) (c : Nat) (AU : Option Addr) (cU : Nat) (AN : Option Addr) (cN : Nat) (w0 : World) (h : RdMs w0 A L) (hU : RdSS w0 AU (unR L b))
    (HC : ∀ (X : Nat → Nat) (B : Option Addr) (cb : Nat) (w : World), AtOk L X → Below w0.heap.size w0 w → Rd w B (ints (atL L.length X)) → Calls Try.prog 129 #[gmV A c AU cU AN cN L.length a b, .slice B L.length cb, .int .i64 way] w (Quietly w (.int .i64 (choX L num one X)))) :
    ValuC L a b way (some (choX L num one)) A c AU cU AN cN w0 := by
  intro X VB cv vals B cb w hX hb hV hvl hB hvals
  have hpl : PlOk L (some (choX L num one)) := cho_ok
  have HVV := Lib.hid hvals
  have HB1 : Below w.heap.size w (w.alloc (.cells #[.slice A L.length c, .slice AU L.length cU, .slice AN L.length cN, .int .i64 a, .int .i64 b] 101)) := (Below.refl _ _).alloc (Nat.le_refl _) _
  have bx := Lib.hid (Bx5.new w (.slice A L.length c) (.slice AU L.length cU) (.slice AN L.length cN) (.int .i64 a) (.int .i64 b) 101)
  have hz : w.heap.size < (w.alloc (.cells #[.slice A L.length c, .slice AU L.length cU, .slice AN L.length cN, .int .i64 a, .int .i64 b] 101)).heap.size := by simp
  have h' := h.below (bUp hb HB1 hb.size) (Nat.le_refl _)
  have hB' := hB.below HB1 (Nat.le_refl _)
  have hU' := hU.below (bUp hb HB1 hb.size) (Nat.le_refl _)
  have hV' := hV.below HB1 (Nat.le_refl _)
  have C0 := HC X B cb (w.alloc (.cells #[.slice A L.length c, .slice AU L.length cU, .slice AN L.length cN, .int .i64 a, .int .i64 b] 101)) hX (bUp hb HB1 hb.size) hB'
  have hn3 := hok.n3
  have hlv := Lib.hid hvl
  have hwy : (way == 0) = false := by simp [hw0]
  unfold gmV at C0 ⊢
  clear h hB hU hV hvals hvl hw0 HC
  obtain ⟨ch, hch⟩ : ∃ ch, ch = choX L num one X := ⟨_, rfl⟩
  rw [← hch] at C0
  by_cases h0 : 0 ≤ ch
  · obtain ⟨i, hi⟩ : ∃ i : Nat, ch = (i : Int) := ⟨ch.toNat, by omega⟩
    subst hi
    have hpi := hpl _ rfl X hX (by rw [← hch]; exact h0)
    rw [← hch, Int.toNat_natCast] at hpi
    have hil : i < L.length := by omega
    have hv0 : valX L a b (some (choX L num one)) X = aft L a b (valX L a b (some (choX L num one))) X i := (valX_eq hok hpl hX).trans (stepV_yes hch.symm)
    rw [hv0]
    clear hv0 hpi hch h0
    go_enter Try.func123, Try.ntmps123
    obtain ⟨f0, f1, f2, f3, f4⟩ := id bx.out
    go_wp2_with fail
    generalize w.alloc (.cells #[.slice A L.length c, .slice AU L.length cU, .slice AN L.length cN, .int .i64 a, .int .i64 b] 101) = u at *
    refine C0.mono ?_
    rintro e v ⟨rfl, b2⟩
    have HB2 := bUp HB1 b2 HB1.size
    clear C0 f0 f1 f2 f3 f4
    have f0 := (b2.cell (p := ⟨w.heap.size, 0, none⟩) hz).trans bx.out.c0
    have f1 := (b2.cell (p := ⟨w.heap.size, 1, none⟩) hz).trans bx.out.c1
    have f2 := (b2.cell (p := ⟨w.heap.size, 2, none⟩) hz).trans bx.out.c2
    have f3 := (b2.cell (p := ⟨w.heap.size, 3, none⟩) hz).trans bx.out.c3
    have f4 := (b2.cell (p := ⟨w.heap.size, 4, none⟩) hz).trans bx.out.c4
    have C := l8After_c hok hpl hX hil A c AU cU AN cN VB cv vals B cb v (h'.below b2 (Nat.le_refl _)) (hU'.below b2 (Nat.le_refl _)) (hV'.below b2 (Nat.le_refl _)) hlv.out (hB'.below b2 (Nat.le_refl _)) (fun y h1 h2 => HVV.out i y hil h1 h2)
    unfold gmV at C
    have i0 : (0 : Int) ≤ (i : Int) := by omega
    go_wp2_with fail
    refine C.mono ?_
    rintro e v3 ⟨rfl, b3⟩
    clear C f0 f1 f2 f3 f4
    go_wp2_with fail
    go_ret
    exact ⟨rfl, bUp HB2 b3 HB2.size⟩
  · have hv0 : valX L a b (some (choX L num one)) X = 0 := (valX_eq hok hpl hX).trans (stepV_no (by rw [← hch]; exact h0))
    rw [hv0]
    clear hv0 hch
    go_enter Try.func123, Try.ntmps123
    obtain ⟨f0, f1, f2, f3, f4⟩ := id bx.out
    go_wp2_with fail
    generalize w.alloc (.cells #[.slice A L.length c, .slice AU L.length cU, .slice AN L.length cN, .int .i64 a, .int .i64 b] 101) = u at *
    refine C0.mono ?_
    rintro e v ⟨rfl, b2⟩
    have HB2 := bUp HB1 b2 HB1.size
    clear C0 f0 f1 f2 f3 f4
    go_wp2_with fail
    go_ret
    exact ⟨rfl, HB2⟩
/-- The value of playing by numbers, from the roots on. -/
def plV (L : List Mkd) (a b : Int) (num : Nat → Nat → Int × Int) (one : Bool) : Int := if armsB L a b then valX L a b (some (choX L num one)) (fun _ => 0) else 0
theorem plV_no {L : List Mkd} {a b : Int} {num : Nat → Nat → Int × Int} {one : Bool} (h : armsB L a b = false) : plV L a b num one = 0 := by simp [plV, h]
theorem plV_yes {L : List Mkd} {a b : Int} {num : Nat → Nat → Int × Int} {one : Bool} (h : armsB L a b = true) : plV L a b num one = valX L a b (some (choX L num one)) (fun _ => 0) := by simp [plV, h]
theorem RdMs.up {w w' : World} {A : Option Addr} {L : List Mkd} (h : RdMs w A L) (hb : Below w.heap.size w w') : RdMs w' A L := h.below hb (Nat.le_refl _)
/-- The reference, by numbers (not in order). -/
theorem l8FromN_c (A : Option Addr) (L : List Mkd) (c : Nat) (a b way : Int) (h0 : way ≠ 0) (h3 : way ≠ 3) (num : Nat → Nat → Int × Int) (f : Nat → List (Int × Int)) (hnum : ArmsOk L a b → NumOk L num) (hf : ArmsOk L a b → NumR L num f) (w : World) (h : RdMs w A L) (hs : SzMs L)
    (HS : ArmsOk L a b → ∀ w : World, RdMs w A L → Calls Try.prog 84 #[.slice A L.length c, .int .i64 a, .int .i64 b, .int .i64 way] w fun e w' => ∃ AU cU AN cN, e = .returned (gmV A c AU cU AN cN L.length a b) ∧ RdSS w' AU (unR L b) ∧ RdN w' AN L.length f ∧ Below w.heap.size w w') :
    Calls Try.prog 80 #[.slice A L.length c, .int .i64 a, .int .i64 b, .int .i64 way] w (Quietly w (.tuple #[.int .i64 (plV L a b num false), .bool (armsB L a b)])) := by
  cases hq : armsB L a b
  · rw [plV_no hq]
    exact l8From_no A L c a b way w h hs hq
  · rw [plV_yes hq]
    have hok := armsB_iff.1 hq
    exact l8From_c A L c a b way _ f w h hs hok (HS hok) fun AU cU AN cN w0 h hU hN => l8ValueP_c h0 hok A c AU cU AN cN w0 h hU fun X B cb w hX hb hB => l8ChosenN_c h3 hok (hnum hok) (hf hok) hX A c AU cU AN cN B cb w (h.up hb) (hN.below hb) hB
/-- The reference, in order. -/
theorem l8FromO_c (A : Option Addr) (L : List Mkd) (c : Nat) (a b : Int) (num : Nat → Nat → Int × Int) (f : Nat → List (Int × Int)) (hnum : ArmsOk L a b → NumOk L num) (hf : ArmsOk L a b → NumR L num f) (w : World) (h : RdMs w A L) (hs : SzMs L)
    (HS : ArmsOk L a b → ∀ w : World, RdMs w A L → Calls Try.prog 84 #[.slice A L.length c, .int .i64 a, .int .i64 b, .int .i64 3] w fun e w' => ∃ AU cU AN cN, e = .returned (gmV A c AU cU AN cN L.length a b) ∧ RdSS w' AU (unR L b) ∧ RdN w' AN L.length f ∧ Below w.heap.size w w') :
    Calls Try.prog 80 #[.slice A L.length c, .int .i64 a, .int .i64 b, .int .i64 3] w (Quietly w (.tuple #[.int .i64 (plV L a b num true), .bool (armsB L a b)])) := by
  cases hq : armsB L a b
  · rw [plV_no hq]
    exact l8From_no A L c a b 3 w h hs hq
  · rw [plV_yes hq]
    have hok := armsB_iff.1 hq
    exact l8From_c A L c a b 3 _ f w h hs hok (HS hok) fun AU cU AN cN w0 h hU hN => l8ValueP_c (by decide) hok A c AU cU AN cN w0 h hU fun X B cb w hX hb hB => l8ChosenO_c hok (hnum hok) (hf hok) hX A c AU cU AN cN B cb w (h.up hb) (hN.below hb) hB
/-- The numbers of playing by fees. -/
def feeN (L : List Mkd) (i x : Nat) : Int × Int := (nth (mAt L i).F x, 1)
theorem feeN_ok {L : List Mkd} {a b : Int} (hok : ArmsOk L a b) : NumOk L (feeN L) := fun i x hi hx => by
  have h : -99 ≤ nth (mAt L i).F x ∧ nth (mAt L i).F x ≤ 99 := allB_nth (hok.arm hi).fees (by have := (hok.arm hi).len; omega)
  unfold feeN
  simp only
  omega
theorem feeN_r {L : List Mkd} {a b : Int} (hok : ArmsOk L a b) : NumR L (feeN L) (fun j => feeP (mAt L j)) := fun i hi => by
  have hl := (hok.arm hi).len
  refine ⟨by rw [feeP_len, hl], fun x hx => ?_⟩
  have hx' : x < (mAt L i).F.length := by omega
  unfold nP feeP feeN
  simp [nth, List.getD, hx']
set_option maxRecDepth 20000 in
set_option maxHeartbeats 2000000 in
theorem specFv_c (A : Option Addr) (L : List Mkd) (c : Nat) (a b : Int) (w : World) (h : RdMs w A L) (hs : SzMs L) :
    Calls Try.prog 30 #[.slice A L.length c, .int .i64 a, .int .i64 b] w (Quietly w (.tuple #[.int .i64 (plV L a b (feeN L) false), .bool (armsB L a b)])) := by
  go_enter Try.func30, Try.ntmps30
  go_wp2_with fail
  refine (l8FromN_c A L c a b 2 (by decide) (by decide) (feeN L) _ feeN_ok feeN_r _ h hs fun hok w h => l8StartF_c rfl hok A c w h hs).mono ?_
  rintro e w2 ⟨rfl, b2⟩
  go_wp2_with fail
  go_ret2
  exact ⟨rfl, b2⟩

/-- What a number function's call answers. -/
def NumC (L : List Mkd) (num : Nat → Nat → Int × Int) (fn : FuncId) (cap : Value) (J : World → Prop) : Prop := ∀ (i x : Nat) (w : World), i < L.length → x < (mAt L i).P.length → J w →
  Calls Try.prog fn #[.int .i64 (i : Int), .int .i64 (x : Int), cap] w (Quietly w (.agg #[.int .i64 (num i x).1, .int .i64 (num i x).2]))
set_option maxRecDepth 20000 in
set_option maxHeartbeats 2000000 in
/-- FeeValue's number: the fee. -/
theorem feeNum_c {L : List Mkd} {a b : Int} (hok : ArmsOk L a b) (A : Option Addr) (c g : Nat) {J : World → Prop} (hJ : ∀ w, J w → w.cell? ⟨g, 0, none⟩ = some (.slice A L.length c) ∧ RdMs w A L) :
    NumC L (feeN L) 90 (.pointer (some ⟨g, 0, none⟩)) J := by
  intro i x w hi hx hj
  obtain ⟨b0, h⟩ := hJ w hj
  obtain ⟨ad, A1, c1, A2, c2, A3, c3, rfl, _, _, q3, _, _, r3⟩ := h i hi
  have hfl := (hok.arm hi).len
  obtain ⟨af, rfl, qf⟩ := r3.intN (k := x) (by omega)
  have bl : Below w.heap.size w (w.alloc (.cells #[.int .i64 0, .int .i64 0] 31)) := (Below.refl _ _).alloc (Nat.le_refl _) _
  have q3' := cellOff 2 (by omega) q3
  rw [hfl] at q3'
  have p3 := (bl.cell (cell_lt q3')).trans q3'
  have pf := (bl.cell (cell_lt qf)).trans qf
  have pb := (bl.cell (cell_lt b0)).trans b0
  have bx := Bx.new w (.int .i64 0) (.int .i64 0) 31
  clear q3 r3 q3' qf hfl
  go_enter Try.func90, Try.ntmps90
  obtain ⟨y0, y1, y2, y3, y4⟩ := bx
  go_wp2_with fail
  exact bodyPost_ret (v := .agg #[.int .i64 (nth (mAt L i).F x), .int .i64 1]) (by simp [results, Try.results90, go_sem]) rfl ⟨rfl, (Below.refl _ _).alloc (Nat.le_refl _) _⟩
theorem bx3_at {w : World} {g : Nat} {X : Nat → Nat} (x0 : w.cell? ⟨g, 0, none⟩ = some (.int .i64 (X 0 : Nat))) (x1 : w.cell? ⟨g, 1, none⟩ = some (.int .i64 (X 1 : Nat))) (x2 : w.cell? ⟨g, 2, none⟩ = some (.int .i64 (X 2 : Nat))) {k : Nat} (hk : k < 3) : w.cell? ⟨g, k, none⟩ = some (.int .i64 (X k : Nat)) := by
  match k, hk with
  | 0, _ => exact x0
  | 1, _ => exact x1
  | 2, _ => exact x2
theorem cmp_pos (f g : Int × Int) : (0 < cmpI (f.1, f.2) (g.1, g.2)) = (lessP g f = true) := cmp_up (f := (f.1, f.2)) (g := (g.1, g.2))
set_option maxRecDepth 20000 in
set_option maxHeartbeats 4000000 in
theorem great_c {L : List Mkd} {a b : Int} {p gm g : Nat} {num : Nat → Nat → Int × Int} {fn : FuncId} {cap : Value} {plv : Plv} (hok : ArmsOk L a b) (hcf : ∀ (args : Array Value) (w : World), (callFunc fn args).run Try.prog w = .ok (.enter fn args) w) (hnum : NumOk L num) (HN : NumC L num fn cap plv.J) (X : Nat → Nat) (w : World) (hX : At3 L X)
    (hJ : ∀ w, plv.J w → w.cell? ⟨g, 0, none⟩ = some (.func (.func fn) #[] #[cap])) (h : PyS w p gm L a b plv) :
    Calls Try.prog 125 #[.pointer (some ⟨p, 0, none⟩), atV X, .pointer (some ⟨g, 0, none⟩)] w (Quietly w (.int .i64 (choX L num false X))) := by
  unfold atV
  have hn3 := hok.n3
  have HB1 : Below w.heap.size w ((w.alloc (.cells #[.int .i64 (X 0 : Nat), .int .i64 (X 1 : Nat), .int .i64 (X 2 : Nat)] 95)).alloc (.cells #[.int .i64 0, .int .i64 1] 31)) := ((Below.refl _ _).alloc (Nat.le_refl _) _).alloc (by simp) _
  have bx := (Bx3.new w (.int .i64 (X 0 : Nat)) (.int .i64 (X 1 : Nat)) (.int .i64 (X 2 : Nat)) 95).alloc (.cells #[.int .i64 0, .int .i64 1] 31)
  have bm := Bx.new (w.alloc (.cells #[.int .i64 (X 0 : Nat), .int .i64 (X 1 : Nat), .int .i64 (X 2 : Nat)] 95)) (.int .i64 0) (.int .i64 1) 31
  rw [World.size_alloc] at bm
  have HS := Lib.hid (h.below HB1)
  obtain ⟨A0, c0, e0, _⟩ := (h.below HB1).arms
  have HH := Lib.hid h
  have HBC := Lib.hid (hJ w h.ex)
  have HJW := Lib.hid h.ex
  clear h hJ HS
  go_enter Try.func125, Try.ntmps125
  go_wp2_with fail
  have hw2 : ((w.alloc (.cells #[.int .i64 (X 0 : Nat), .int .i64 (X 1 : Nat), .int .i64 (X 2 : Nat)] 95)).alloc (.cells #[.int .i64 0, .int .i64 1] 31)).heap.size = w.heap.size + 2 := by simp
  have HZ := Lib.hid hw2
  have BM := Lib.hid bm
  have BX := Lib.hid bx
  clear hw2 bm bx e0
  generalize (w.alloc (.cells #[.int .i64 (X 0 : Nat), .int .i64 (X 1 : Nat), .int .i64 (X 2 : Nat)] 95)).alloc (.cells #[.int .i64 0, .int .i64 1] 31) = u at *
  go_loopw [6, 15] (fun q j wr => ∃ k : Nat, k ≤ L.length ∧ j = .int .i64 (k : Int) ∧ q = .int .i64 (choT L num false X k).1 ∧ Bx wr (w.heap.size + 1) (.int .i64 (choT L num false X k).2.1) (.int .i64 (choT L num false X k).2.2) ∧ Below (w.heap.size + 1) u wr) (fun _ j _ => L.length - (intOf j).toNat)
  case atStart => exact ⟨0, by omega, rfl, rfl, BM.out, Below.refl _ _⟩
  case round =>
    obtain ⟨v, rfl⟩ : ∃ v : World, v = wr := ⟨_, rfl⟩
    obtain ⟨k, hk, rfl, rfl, bm, HB⟩ := hrel
    have HBW : Below w.heap.size w v := HB1.trans (HB.mono (Nat.le_succ _))
    by_cases hlt : k < L.length
    · have hu2 := HZ.out
      have x0 := (HB.cell (p := ⟨w.heap.size, 0, none⟩) (Nat.lt_succ_self _)).trans BX.out.1
      have x1 := (HB.cell (p := ⟨w.heap.size, 1, none⟩) (Nat.lt_succ_self _)).trans BX.out.2.1
      have x2 := (HB.cell (p := ⟨w.heap.size, 2, none⟩) (Nat.lt_succ_self _)).trans BX.out.2.2.1
      have hzv : w.heap.size + 1 < v.heap.size := bm.2.2.2.2
      clear hu2
      have hxk := hX.1 k hlt
      have hk3 : (k : Int) < 3 := by omega
      cases hc : canX L X k
      · have HN1 := Lib.hid (choT_no1 (num := num) (one := false) hc)
        have C := can_c hok hX.1 hlt p gm false hc v.drew (HH.out.below (Below.drew HBW))
        unfold atV at C
        clear hc
        go_upto_region 5 with fail
        have hd1 : Below v.heap.size v v.drew := Below.drew (Below.refl _ _)
        have SK1 : Hid (∀ w', Below v.heap.size v w' → w'.cell? ⟨w.heap.size, 0, none⟩ = some (.int .i64 (X 0 : Nat)) ∧ w'.cell? ⟨w.heap.size, 1, none⟩ = some (.int .i64 (X 1 : Nat)) ∧ w'.cell? ⟨w.heap.size, 2, none⟩ = some (.int .i64 (X 2 : Nat))) := Lib.hid fun w' HV => ⟨(HV.cell (cell_lt x0)).trans x0, (HV.cell (cell_lt x1)).trans x1, (HV.cell (cell_lt x2)).trans x2⟩
        clear x0 x1 x2
        have hS1_0 := SK1.out _ hd1
        refine tamed_region (S := fun w' => w'.cell? ⟨w.heap.size, 0, none⟩ = some (.int .i64 (X 0 : Nat)) ∧ w'.cell? ⟨w.heap.size, 1, none⟩ = some (.int .i64 (X 1 : Nat)) ∧ w'.cell? ⟨w.heap.size, 2, none⟩ = some (.int .i64 (X 2 : Nat))) (fun _ => false) (by kernel_rfl) ?_
        refine tame0 (k := 0) ?_ rfl (by kernel_rfl) (by kernel_rfl) (by kernel_rfl) (fun _ _ _ h => h) (by kernel_rfl) (fun v => ?_) ?_
        rotate_left
        · (go_simp; all_goals rfl)
        simp only [Act.put, List.setIfInBounds_toArray]
        refine tame (k := 1) ?_ rfl (by kernel_rfl) (by kernel_rfl) (by kernel_rfl) (by kernel_rfl) (fun _ _ _ h => h) (by kernel_rfl) hS1_0 (fun v hv => ?_) ?_
        rotate_left
        · (obtain ⟨k1, k2, k3⟩ := hv; go_simp; all_goals rfl)
        simp only [Act.put]
        refine tame0 (k := 2) ?_ rfl (by kernel_rfl) (by kernel_rfl) (by kernel_rfl) (fun _ _ _ h => h) (by kernel_rfl) (fun v => ?_) ?_
        rotate_left
        · (go_simp; all_goals rfl)
        simp only [Act.put]
        refine tame_one (k := 3) (by kernel_rfl) rfl (by kernel_rfl) ?_
        go_simp
        refine (C).mono ?_
        rintro e v3 ⟨rfl, b3⟩
        have hd1_1 := bUp hd1 b3 (Nat.le_refl _)
        have hS1_1 := Lib.hid (SK1.out _ hd1_1)
        refine ⟨by first | exact hS1_1 | exact Hid.out hS1_1, ?_⟩
        refine tame0 (k := 4) ?_ rfl (by kernel_rfl) (by kernel_rfl) (by kernel_rfl) (fun _ _ _ h => h) (by kernel_rfl) (fun v => ?_) ?_
        rotate_left
        · (go_simp; all_goals rfl)
        simp only [Act.put]
        refine tame_no (k := 5) rfl (by kernel_rfl) (by kernel_rfl) (by kernel_rfl) (fun _ _ _ h => h) (by kernel_rfl) ?_
        simp only [Act.put]
        refine tame_no (k := 6) rfl (by kernel_rfl) (by kernel_rfl) (by kernel_rfl) (fun _ _ _ h => h) (by kernel_rfl) ?_
        simp only [Act.put]
        refine tame_no (k := 7) rfl (by kernel_rfl) (by kernel_rfl) (by kernel_rfl) (fun _ _ _ h => h) (by kernel_rfl) ?_
        simp only [Act.put]
        refine tame_no (k := 8) rfl (by kernel_rfl) (by kernel_rfl) (by kernel_rfl) (fun _ _ _ h => h) (by kernel_rfl) ?_
        simp only [Act.put]
        refine tame_no (k := 9) rfl (by kernel_rfl) (by kernel_rfl) (by kernel_rfl) (fun _ _ _ h => h) (by kernel_rfl) ?_
        simp only [Act.put]
        refine tame_no (k := 10) rfl (by kernel_rfl) (by kernel_rfl) (by kernel_rfl) (fun _ _ _ h => h) (by kernel_rfl) ?_
        simp only [Act.put]
        refine tame_no (k := 11) rfl (by kernel_rfl) (by kernel_rfl) (by kernel_rfl) (fun _ _ _ h => h) (by kernel_rfl) ?_
        simp only [Act.put]
        refine tame_no (k := 12) rfl (by kernel_rfl) (by kernel_rfl) (by kernel_rfl) (fun _ _ _ h => h) (by kernel_rfl) ?_
        simp only [Act.put]
        refine tame_no (k := 13) rfl (by kernel_rfl) (by kernel_rfl) (by kernel_rfl) (fun _ _ _ h => h) (by kernel_rfl) ?_
        simp only [Act.put]
        refine tame_one (k := 14) (by kernel_rfl) rfl (by kernel_rfl) ?_
        go_simp
        refine ⟨by first | exact hS1_1 | exact Hid.out hS1_1, ?_⟩
        refine tame_end (by kernel_rfl) ?_
        have bm9 := bm.below hd1_1
        have HB9 := bUp HB hd1_1 (by omega)
        clear C bm
        go_wp2_with fail
        go_roundw
        case rel => exact ⟨k + 1, by omega, by go_num, by rw [HN1.out], by rw [HN1.out]; exact bm9, HB9⟩
        case measure => simp [intOf] <;> omega
      · have C := can_c hok hX.1 hlt p gm true hc v.drew (HH.out.below (Below.drew HBW))
        unfold atV at C
        have bi := bx3_at x0 x1 x2 (Nat.lt_of_lt_of_le hlt hn3)
        have gc := (HBW.cell (cell_lt HBC.out)).trans HBC.out
        have m0 := bm.1
        have m1 := bm.2.1
        have hms := hnum.most (one := false) hX.1 hk
        have hnm := hnum k (X k) hlt hxk
        have CN := fun (w9 : World) (hb9 : Below v.heap.size v w9) => HN k (X k) w9 hlt hxk (plv.keep _ _ HJW.out fun q hq => (bUp HBW hb9 HBW.size).cell hq)
        have CC := fun (w9 : World) => compared_c (num k (X k)).1 (num k (X k)).2 (choT L num false X k).2.1 (choT L num false X k).2.2 ⟨hnm.1, hnm.2.1⟩ ⟨by omega, hnm.2.2.2⟩ ⟨hms.1, hms.2.1⟩ ⟨by omega, hms.2.2.2⟩ w9
        have CN2 := Lib.hid CN
        have CC2 := Lib.hid CC
        clear CN CC hms hnm
        have hcu := cmp_pos (num k (X k)) (choT L num false X k).2
        cases hl : lessP (choT L num false X k).2 (num k (X k))
        · have HN1 := Lib.hid (choT_no2 (one := false) hl)
          rw [hl] at hcu
          have hcu : ¬ (0 < cmpI ((num k (X k)).1, (num k (X k)).2) ((choT L num false X k).2.1, (choT L num false X k).2.2)) := by rw [hcu]; decide
          go_upto_region 5 with fail
          have hd2 : Below v.heap.size v v.drew := Below.drew (Below.refl _ _)
          have SK2 : Hid (∀ w', Below v.heap.size v w' → w'.cell? ⟨w.heap.size, 0, none⟩ = some (.int .i64 (X 0 : Nat)) ∧ w'.cell? ⟨w.heap.size, 1, none⟩ = some (.int .i64 (X 1 : Nat)) ∧ w'.cell? ⟨w.heap.size, 2, none⟩ = some (.int .i64 (X 2 : Nat)) ∧ w'.cell? ⟨w.heap.size, k, none⟩ = some (.int .i64 (X k : Nat)) ∧ w'.cell? ⟨g, 0, none⟩ = some (.func (.func fn) #[] #[cap]) ∧ w'.cell? ⟨w.heap.size + 1, 0, none⟩ = some (.int .i64 (choT L num false X k).2.1) ∧ w'.cell? ⟨w.heap.size + 1, 1, none⟩ = some (.int .i64 (choT L num false X k).2.2)) := Lib.hid fun w' HV => ⟨(HV.cell (cell_lt x0)).trans x0, (HV.cell (cell_lt x1)).trans x1, (HV.cell (cell_lt x2)).trans x2, (HV.cell (cell_lt bi)).trans bi, (HV.cell (cell_lt gc)).trans gc, (HV.cell (cell_lt m0)).trans m0, (HV.cell (cell_lt m1)).trans m1⟩
          clear x0 x1 x2 bi gc m0 m1
          have hS2_0 := SK2.out _ hd2
          refine tamed_region (S := fun w' => w'.cell? ⟨w.heap.size, 0, none⟩ = some (.int .i64 (X 0 : Nat)) ∧ w'.cell? ⟨w.heap.size, 1, none⟩ = some (.int .i64 (X 1 : Nat)) ∧ w'.cell? ⟨w.heap.size, 2, none⟩ = some (.int .i64 (X 2 : Nat)) ∧ w'.cell? ⟨w.heap.size, k, none⟩ = some (.int .i64 (X k : Nat)) ∧ w'.cell? ⟨g, 0, none⟩ = some (.func (.func fn) #[] #[cap]) ∧ w'.cell? ⟨w.heap.size + 1, 0, none⟩ = some (.int .i64 (choT L num false X k).2.1) ∧ w'.cell? ⟨w.heap.size + 1, 1, none⟩ = some (.int .i64 (choT L num false X k).2.2)) (fun _ => false) (by kernel_rfl) ?_
          refine tame0 (k := 0) ?_ rfl (by kernel_rfl) (by kernel_rfl) (by kernel_rfl) (fun _ _ _ h => h) (by kernel_rfl) (fun v => ?_) ?_
          rotate_left
          · (go_simp; all_goals rfl)
          simp only [Act.put, List.setIfInBounds_toArray]
          refine tame (k := 1) ?_ rfl (by kernel_rfl) (by kernel_rfl) (by kernel_rfl) (by kernel_rfl) (fun _ _ _ h => h) (by kernel_rfl) hS2_0 (fun v hv => ?_) ?_
          rotate_left
          · (obtain ⟨k1, k2, k3, k4, k5, k6, k7⟩ := hv; go_simp; all_goals rfl)
          simp only [Act.put]
          refine tame0 (k := 2) ?_ rfl (by kernel_rfl) (by kernel_rfl) (by kernel_rfl) (fun _ _ _ h => h) (by kernel_rfl) (fun v => ?_) ?_
          rotate_left
          · (go_simp; all_goals rfl)
          simp only [Act.put]
          refine tame_one (k := 3) (by kernel_rfl) rfl (by kernel_rfl) ?_
          go_simp
          refine (C).mono ?_
          rintro e v3 ⟨rfl, b3⟩
          have hd2_1 := bUp hd2 b3 (Nat.le_refl _)
          have hS2_1 := Lib.hid (SK2.out _ hd2_1)
          refine ⟨by first | exact hS2_1 | exact Hid.out hS2_1, ?_⟩
          refine tame0 (k := 4) ?_ rfl (by kernel_rfl) (by kernel_rfl) (by kernel_rfl) (fun _ _ _ h => h) (by kernel_rfl) (fun v => ?_) ?_
          rotate_left
          · (go_simp; all_goals rfl)
          simp only [Act.put]
          have hS2_1o := Hid.out hS2_1
          refine tame (k := 5) ?_ rfl (by kernel_rfl) (by kernel_rfl) (by kernel_rfl) (by kernel_rfl) (fun _ _ _ h => h) (by kernel_rfl) hS2_1o (fun v hv => ?_) ?_
          rotate_left
          · (obtain ⟨k1, k2, k3, k4, k5, k6, k7⟩ := hv; go_simp; all_goals rfl)
          simp only [Act.put]
          refine tame0 (k := 6) ?_ rfl (by kernel_rfl) (by kernel_rfl) (by kernel_rfl) (fun _ _ _ h => h) (by kernel_rfl) (fun v => ?_) ?_
          rotate_left
          · (go_simp; all_goals rfl)
          simp only [Act.put]
          refine tame0 (k := 7) ?_ rfl (by kernel_rfl) (by kernel_rfl) (by kernel_rfl) (fun _ _ _ h => h) (by kernel_rfl) (fun v => ?_) ?_
          rotate_left
          · (go_simp; all_goals rfl)
          simp only [Act.put]
          refine tame0 (k := 8) ?_ rfl (by kernel_rfl) (by kernel_rfl) (by kernel_rfl) (fun _ _ _ h => h) (by kernel_rfl) (fun v => ?_) ?_
          rotate_left
          · (go_simp; all_goals rfl)
          simp only [Act.put]
          refine tame (k := 9) ?_ rfl (by kernel_rfl) (by kernel_rfl) (by kernel_rfl) (by kernel_rfl) (fun _ _ _ h => h) (by kernel_rfl) hS2_1o (fun v hv => ?_) ?_
          rotate_left
          · (obtain ⟨k1, k2, k3, k4, k5, k6, k7⟩ := hv; go_simp; all_goals rfl)
          simp only [Act.put]
          refine tame (k := 11) ?_ rfl (by kernel_rfl) (by kernel_rfl) (by kernel_rfl) (by kernel_rfl) (fun _ _ _ h => h) (by kernel_rfl) hS2_1o (fun v hv => ?_) ?_
          rotate_left
          · (obtain ⟨k1, k2, k3, k4, k5, k6, k7⟩ := hv; go_simp; all_goals rfl)
          simp only [Act.put]
          have hS2_1ov := Lib.hid hS2_1o
          clear hS2_1o
          refine tame_one (k := 10) (by kernel_rfl) rfl (by kernel_rfl) ?_
          go_simp
          refine (CN2.out v3 hd2_1).mono ?_
          rintro e v4 ⟨rfl, b4⟩
          have hd2_2 := bUp hd2_1 b4 hd2_1.size
          have hS2_2 := Lib.hid (SK2.out _ hd2_2)
          refine ⟨by first | exact hS2_2 | exact Hid.out hS2_2, ?_⟩
          refine tame_one (k := 12) (by kernel_rfl) rfl (by kernel_rfl) ?_
          go_simp
          refine (CC2.out v4).mono ?_
          rintro e v5 ⟨rfl, b5⟩
          have hd2_3 := bUp hd2_2 b5 hd2_2.size
          have hS2_3 := Lib.hid (SK2.out _ hd2_3)
          refine ⟨by first | exact hS2_3 | exact Hid.out hS2_3, ?_⟩
          refine tame0 (k := 13) ?_ rfl (by kernel_rfl) (by kernel_rfl) (by kernel_rfl) (fun _ _ _ h => h) (by kernel_rfl) (fun v => ?_) ?_
          rotate_left
          · (go_simp; all_goals rfl)
          simp only [Act.put]
          refine tame_one (k := 14) (by kernel_rfl) rfl (by kernel_rfl) ?_
          go_simp
          refine ⟨by first | exact hS2_3 | exact Hid.out hS2_3, ?_⟩
          refine tame_end (by kernel_rfl) ?_
          have bm9 := bm.below hd2_3
          have HB9 := bUp HB hd2_3 (by omega)
          clear C bm hcu
          go_wp2_with fail
          go_roundw
          case rel => exact ⟨k + 1, by omega, by go_num, by rw [HN1.out], by rw [HN1.out]; exact bm9, HB9⟩
          case measure => simp [intOf] <;> omega
        · have HN1 := Lib.hid (choT_yes (one := false) hc hl (.inl rfl))
          rw [hl] at hcu
          have hcu : 0 < cmpI ((num k (X k)).1, (num k (X k)).2) ((choT L num false X k).2.1, (choT L num false X k).2.2) := by rw [hcu]
          have NN := Lib.hid (And.intro bi gc)
          go_upto_region 5 with fail
          have hd3 : Below v.heap.size v v.drew := Below.drew (Below.refl _ _)
          have SK3 : Hid (∀ w', Below v.heap.size v w' → w'.cell? ⟨w.heap.size, 0, none⟩ = some (.int .i64 (X 0 : Nat)) ∧ w'.cell? ⟨w.heap.size, 1, none⟩ = some (.int .i64 (X 1 : Nat)) ∧ w'.cell? ⟨w.heap.size, 2, none⟩ = some (.int .i64 (X 2 : Nat)) ∧ w'.cell? ⟨w.heap.size, k, none⟩ = some (.int .i64 (X k : Nat)) ∧ w'.cell? ⟨g, 0, none⟩ = some (.func (.func fn) #[] #[cap]) ∧ w'.cell? ⟨w.heap.size + 1, 0, none⟩ = some (.int .i64 (choT L num false X k).2.1) ∧ w'.cell? ⟨w.heap.size + 1, 1, none⟩ = some (.int .i64 (choT L num false X k).2.2)) := Lib.hid fun w' HV => ⟨(HV.cell (cell_lt x0)).trans x0, (HV.cell (cell_lt x1)).trans x1, (HV.cell (cell_lt x2)).trans x2, (HV.cell (cell_lt bi)).trans bi, (HV.cell (cell_lt gc)).trans gc, (HV.cell (cell_lt m0)).trans m0, (HV.cell (cell_lt m1)).trans m1⟩
          clear x0 x1 x2 bi gc m0 m1
          have hS3_0 := SK3.out _ hd3
          refine tamed_region (S := fun w' => w'.cell? ⟨w.heap.size, 0, none⟩ = some (.int .i64 (X 0 : Nat)) ∧ w'.cell? ⟨w.heap.size, 1, none⟩ = some (.int .i64 (X 1 : Nat)) ∧ w'.cell? ⟨w.heap.size, 2, none⟩ = some (.int .i64 (X 2 : Nat)) ∧ w'.cell? ⟨w.heap.size, k, none⟩ = some (.int .i64 (X k : Nat)) ∧ w'.cell? ⟨g, 0, none⟩ = some (.func (.func fn) #[] #[cap]) ∧ w'.cell? ⟨w.heap.size + 1, 0, none⟩ = some (.int .i64 (choT L num false X k).2.1) ∧ w'.cell? ⟨w.heap.size + 1, 1, none⟩ = some (.int .i64 (choT L num false X k).2.2)) (fun _ => false) (by kernel_rfl) ?_
          refine tame0 (k := 0) ?_ rfl (by kernel_rfl) (by kernel_rfl) (by kernel_rfl) (fun _ _ _ h => h) (by kernel_rfl) (fun v => ?_) ?_
          rotate_left
          · (go_simp; all_goals rfl)
          simp only [Act.put, List.setIfInBounds_toArray]
          refine tame (k := 1) ?_ rfl (by kernel_rfl) (by kernel_rfl) (by kernel_rfl) (by kernel_rfl) (fun _ _ _ h => h) (by kernel_rfl) hS3_0 (fun v hv => ?_) ?_
          rotate_left
          · (obtain ⟨k1, k2, k3, k4, k5, k6, k7⟩ := hv; go_simp; all_goals rfl)
          simp only [Act.put]
          refine tame0 (k := 2) ?_ rfl (by kernel_rfl) (by kernel_rfl) (by kernel_rfl) (fun _ _ _ h => h) (by kernel_rfl) (fun v => ?_) ?_
          rotate_left
          · (go_simp; all_goals rfl)
          simp only [Act.put]
          refine tame_one (k := 3) (by kernel_rfl) rfl (by kernel_rfl) ?_
          go_simp
          refine (C).mono ?_
          rintro e v3 ⟨rfl, b3⟩
          have hd3_1 := bUp hd3 b3 (Nat.le_refl _)
          have hS3_1 := Lib.hid (SK3.out _ hd3_1)
          refine ⟨by first | exact hS3_1 | exact Hid.out hS3_1, ?_⟩
          refine tame0 (k := 4) ?_ rfl (by kernel_rfl) (by kernel_rfl) (by kernel_rfl) (fun _ _ _ h => h) (by kernel_rfl) (fun v => ?_) ?_
          rotate_left
          · (go_simp; all_goals rfl)
          simp only [Act.put]
          have hS3_1o := Hid.out hS3_1
          refine tame (k := 5) ?_ rfl (by kernel_rfl) (by kernel_rfl) (by kernel_rfl) (by kernel_rfl) (fun _ _ _ h => h) (by kernel_rfl) hS3_1o (fun v hv => ?_) ?_
          rotate_left
          · (obtain ⟨k1, k2, k3, k4, k5, k6, k7⟩ := hv; go_simp; all_goals rfl)
          simp only [Act.put]
          refine tame0 (k := 6) ?_ rfl (by kernel_rfl) (by kernel_rfl) (by kernel_rfl) (fun _ _ _ h => h) (by kernel_rfl) (fun v => ?_) ?_
          rotate_left
          · (go_simp; all_goals rfl)
          simp only [Act.put]
          refine tame0 (k := 7) ?_ rfl (by kernel_rfl) (by kernel_rfl) (by kernel_rfl) (fun _ _ _ h => h) (by kernel_rfl) (fun v => ?_) ?_
          rotate_left
          · (go_simp; all_goals rfl)
          simp only [Act.put]
          refine tame0 (k := 8) ?_ rfl (by kernel_rfl) (by kernel_rfl) (by kernel_rfl) (fun _ _ _ h => h) (by kernel_rfl) (fun v => ?_) ?_
          rotate_left
          · (go_simp; all_goals rfl)
          simp only [Act.put]
          refine tame (k := 9) ?_ rfl (by kernel_rfl) (by kernel_rfl) (by kernel_rfl) (by kernel_rfl) (fun _ _ _ h => h) (by kernel_rfl) hS3_1o (fun v hv => ?_) ?_
          rotate_left
          · (obtain ⟨k1, k2, k3, k4, k5, k6, k7⟩ := hv; go_simp; all_goals rfl)
          simp only [Act.put]
          refine tame (k := 11) ?_ rfl (by kernel_rfl) (by kernel_rfl) (by kernel_rfl) (by kernel_rfl) (fun _ _ _ h => h) (by kernel_rfl) hS3_1o (fun v hv => ?_) ?_
          rotate_left
          · (obtain ⟨k1, k2, k3, k4, k5, k6, k7⟩ := hv; go_simp; all_goals rfl)
          simp only [Act.put]
          have hS3_1ov := Lib.hid hS3_1o
          clear hS3_1o
          refine tame_one (k := 10) (by kernel_rfl) rfl (by kernel_rfl) ?_
          go_simp
          refine (CN2.out v3 hd3_1).mono ?_
          rintro e v4 ⟨rfl, b4⟩
          have hd3_2 := bUp hd3_1 b4 hd3_1.size
          have hS3_2 := Lib.hid (SK3.out _ hd3_2)
          refine ⟨by first | exact hS3_2 | exact Hid.out hS3_2, ?_⟩
          refine tame_one (k := 12) (by kernel_rfl) rfl (by kernel_rfl) ?_
          go_simp
          refine (CC2.out v4).mono ?_
          rintro e v5 ⟨rfl, b5⟩
          have hd3_3 := bUp hd3_2 b5 hd3_2.size
          have hS3_3 := Lib.hid (SK3.out _ hd3_3)
          refine ⟨by first | exact hS3_3 | exact Hid.out hS3_3, ?_⟩
          refine tame0 (k := 13) ?_ rfl (by kernel_rfl) (by kernel_rfl) (by kernel_rfl) (fun _ _ _ h => h) (by kernel_rfl) (fun v => ?_) ?_
          rotate_left
          · (go_simp; all_goals rfl)
          simp only [Act.put]
          refine tame_one (k := 14) (by kernel_rfl) rfl (by kernel_rfl) ?_
          go_simp
          refine ⟨by first | exact hS3_3 | exact Hid.out hS3_3, ?_⟩
          refine tame_end (by kernel_rfl) ?_
          have bm9 := bm.below hd3_3
          have HB9 := bUp HB hd3_3 (by omega)
          have bi := (hd3_3.cell (cell_lt NN.out.1)).trans NN.out.1
          have gc := (hd3_3.cell (cell_lt NN.out.2)).trans NN.out.2
          clear C bm hcu NN
          go_upto_region 6 with fail
          have hd4 : Below v5.heap.size v5 v5.drew := Below.drew (Below.refl _ _)
          have SK4 : Hid (∀ w', Below v5.heap.size v5 w' → w'.cell? ⟨w.heap.size, k, none⟩ = some (.int .i64 (X k : Nat)) ∧ w'.cell? ⟨g, 0, none⟩ = some (.func (.func fn) #[] #[cap])) := Lib.hid fun w' HV => ⟨(HV.cell (cell_lt bi)).trans bi, (HV.cell (cell_lt gc)).trans gc⟩
          clear bi gc
          have hS4_0 := SK4.out _ hd4
          refine tamed_region (S := fun w' => w'.cell? ⟨w.heap.size, k, none⟩ = some (.int .i64 (X k : Nat)) ∧ w'.cell? ⟨g, 0, none⟩ = some (.func (.func fn) #[] #[cap])) (fun k => k == 8) (by kernel_rfl) ?_
          refine tame0 (k := 0) ?_ rfl (by kernel_rfl) (by kernel_rfl) (by kernel_rfl) (fun _ _ _ h => h) (by kernel_rfl) (fun v => ?_) ?_
          rotate_left
          · (go_simp; all_goals rfl)
          simp only [Act.put, List.setIfInBounds_toArray]
          refine tameT (k := 1) ?_ rfl (by kernel_rfl) (by kernel_rfl) (by kernel_rfl) (by kernel_rfl) (by kernel_rfl) (fun _ _ _ h => h) (by kernel_rfl) hS4_0 (fun v hv => ?_) ?_
          rotate_left
          · (obtain ⟨k1, k2⟩ := hv; go_simp; all_goals rfl)
          simp only [Act.put]
          refine tame0 (k := 2) ?_ rfl (by kernel_rfl) (by kernel_rfl) (by kernel_rfl) (fun _ _ _ h => h) (by kernel_rfl) (fun v => ?_) ?_
          rotate_left
          · (go_simp; all_goals rfl)
          simp only [Act.put]
          refine tame0 (k := 3) ?_ rfl (by kernel_rfl) (by kernel_rfl) (by kernel_rfl) (fun _ _ _ h => h) (by kernel_rfl) (fun v => ?_) ?_
          rotate_left
          · (go_simp; all_goals rfl)
          simp only [Act.put]
          refine tame0 (k := 4) ?_ rfl (by kernel_rfl) (by kernel_rfl) (by kernel_rfl) (fun _ _ _ h => h) (by kernel_rfl) (fun v => ?_) ?_
          rotate_left
          · (go_simp; all_goals rfl)
          simp only [Act.put]
          refine tameT (k := 5) ?_ rfl (by kernel_rfl) (by kernel_rfl) (by kernel_rfl) (by kernel_rfl) (by kernel_rfl) (fun _ _ _ h => h) (by kernel_rfl) hS4_0 (fun v hv => ?_) ?_
          rotate_left
          · (obtain ⟨k1, k2⟩ := hv; go_simp; all_goals rfl)
          simp only [Act.put]
          have hS4_0v := Lib.hid hS4_0
          clear hS4_0
          refine tame_one (k := 6) (by kernel_rfl) rfl (by kernel_rfl) ?_
          go_simp
          refine (CN2.out _ (bUp hd3_3 hd4 hd3_3.size)).mono ?_
          rintro e v7 ⟨rfl, b7⟩
          have hd4_1 := bUp hd4 b7 (Nat.le_refl _)
          have hS4_1 := Lib.hid (SK4.out _ hd4_1)
          refine ⟨by first | exact hS4_1 | exact Hid.out hS4_1, ?_⟩
          refine tame_one (k := 7) (by kernel_rfl) rfl (by kernel_rfl) ?_
          go_simp
          refine ⟨by first | exact hS4_1 | exact Hid.out hS4_1, ?_⟩
          have hz5 := bm9.2.2.2.2
          have bm10 := bm9.below hd4_1
          have HB10 := bUp HB9 hd4_1 (by omega)
          obtain ⟨m0, m1, m2, m3, m4⟩ := id bm10
          have bmX := bx_put bm10 (.int .i64 (num k (X k)).1) (.int .i64 (num k (X k)).2)
          have HBX := (HB10.setCell (p := ⟨w.heap.size + 1, 0, none⟩) (Nat.le_refl _) (.int .i64 (num k (X k)).1)).setCell (p := ⟨w.heap.size + 1, 1, none⟩) (Nat.le_refl _) (.int .i64 (num k (X k)).2)
          refine tame_one (k := 8) (by kernel_rfl) rfl (by kernel_rfl) ?_
          go_simp
          try (refine ⟨fun h => absurd h (by decide), ?_⟩)
          refine tame_end (by kernel_rfl) ?_
          clear bm9 bm10 m0 m1 m2 m3 m4
          go_wp2_with fail
          go_roundw
          case rel => exact ⟨k + 1, by omega, by go_num, by rw [HN1.out], by rw [HN1.out]; exact bmX, HBX⟩
          case measure => simp [intOf] <;> omega
    · obtain rfl : k = L.length := by omega
      go_wp2_with fail
      go_ret
      exact ⟨rfl, HBW⟩

/-- byGreatest's plan with what it needs: the number function in its cell, and what that one needs. -/
def greatPlv (fn : FuncId) (cap : Value) (g : Nat) (J : World → Prop) (hk : ∀ w w' : World, J w → (∀ q : Addr, q.block < w.heap.size → w'.cell? q = w.cell? q) → J w') : Plv :=
  ⟨.func (.func 125) #[] #[.pointer (some ⟨g, 0, none⟩)], fun w => w.cell? ⟨g, 0, none⟩ = some (.func (.func fn) #[] #[cap]) ∧ J w, fun w w' h hc => ⟨(hc _ (cell_lt h.1)).trans h.1, hk w w' h.2 hc⟩⟩
set_option maxRecDepth 20000 in
set_option maxHeartbeats 1000000 in
theorem byGreatest_c (fn : FuncId) (cap : Value) (w : World) :
    Calls Try.prog 88 #[.func (.func fn) #[] #[cap]] w fun e w' => e = .returned (.func (.func 125) #[] #[.pointer (some ⟨w.heap.size, 0, none⟩)]) ∧ w'.cell? ⟨w.heap.size, 0, none⟩ = some (.func (.func fn) #[] #[cap]) ∧ Below w.heap.size w w' := by
  have HB1 : Below w.heap.size w (w.alloc (.cells #[.func (.func fn) #[] #[cap]] 81)) := (Below.refl _ _).alloc (Nat.le_refl _) _
  go_enter Try.func88, Try.ntmps88
  go_wp2_with fail
  go_ret
  exact ⟨rfl, by simp, HB1⟩
set_option maxRecDepth 20000 in
theorem valC_great {L : List Mkd} {a b : Int} {p gm g : Nat} {num : Nat → Nat → Int × Int} {fn : FuncId} {cap : Value} {J : World → Prop} {hk : ∀ w w' : World, J w → (∀ q : Addr, q.block < w.heap.size → w'.cell? q = w.cell? q) → J w'} (hok : ArmsOk L a b) (hcf : ∀ (args : Array Value) (w : World), (callFunc fn args).run Try.prog w = .ok (.enter fn args) w) (hnum : NumOk L num) (HN : NumC L num fn cap J) (m : Nat) :
    ValC L a b (some (choX L num false)) (greatPlv fn cap g J hk) p gm m :=
  valC_plan (fc := 125) (cap := .pointer (some ⟨g, 0, none⟩)) (plv := greatPlv fn cap g J hk) rfl hok cho_ok (fun _ _ => rfl) (fun X w hX h => great_c (plv := greatPlv fn cap g J hk) hok hcf hnum (fun i x w hi hx hj => HN i x w hi hx hj.2) X w hX (fun _ hj => hj.1) h) m
/-- What FeeValue's number function needs. -/
def feeJ (L : List Mkd) (A : Option Addr) (c h : Nat) (w : World) : Prop := w.cell? ⟨h, 0, none⟩ = some (.slice A L.length c) ∧ RdMs w A L
theorem feeJ_keep (L : List Mkd) (A : Option Addr) (c h : Nat) (w w' : World) (hj : feeJ L A c h w) (hc : ∀ q : Addr, q.block < w.heap.size → w'.cell? q = w.cell? q) : feeJ L A c h w' := ⟨(hc _ (cell_lt hj.1)).trans hj.1, hj.2.keep hc⟩
set_option maxRecDepth 20000 in
set_option maxHeartbeats 2000000 in
theorem implFv_c (A : Option Addr) (L : List Mkd) (c : Nat) (a b : Int) (w : World) (h : RdMs w A L) (hs : SzMs L) :
    Calls Try.prog 29 #[.slice A L.length c, .int .i64 a, .int .i64 b] w (Quietly w (.tuple #[.int .i64 (plV L a b (feeN L) false), .bool (armsB L a b)])) := by
  have HB1 : Below w.heap.size w (w.alloc (.cells #[.slice A L.length c] 46)) := (Below.refl _ _).alloc (Nat.le_refl _) _
  have g0 : (w.alloc (.cells #[.slice A L.length c] 46)).cell? ⟨w.heap.size, 0, none⟩ = some (.slice A L.length c) := by simp
  cases hq : armsB L a b
  · rw [plV_no hq]
    go_enter Try.func29, Try.ntmps29
    go_wp2_with fail
    refine (areArms_is A L c a b _ hq _ (h.up HB1) hs).mono ?_
    rintro e w2 ⟨rfl, b2⟩
    go_wp2
    go_ret2
    exact ⟨rfl, bUp HB1 b2 HB1.size⟩
  · rw [plV_yes hq]
    have hok := armsB_iff.1 hq
    go_enter Try.func29, Try.ntmps29
    go_wp2_with fail
    refine (areArms_is A L c a b _ hq _ (h.up HB1) hs).mono ?_
    rintro e w2 ⟨rfl, b2⟩
    have HB2 := bUp HB1 b2 HB1.size
    have g2 := (b2.cell (cell_lt g0)).trans g0
    clear g0
    go_wp2_with fail
    refine (byGreatest_c _ _ _).mono ?_
    rintro e w3 ⟨rfl, e3, b3⟩
    have HB3 := bUp HB2 b3 HB2.size
    have g3 := (b3.cell (cell_lt g2)).trans g2
    have hJ : feeJ L A c w.heap.size w3 := ⟨g3, h.up HB3⟩
    have E3 := Lib.hid e3
    clear g2 e3
    go_wp2_with fail
    refine (newPyS (pl := greatPlv 90 (.pointer (some ⟨w.heap.size, 0, none⟩)) w2.heap.size (feeJ L A c w.heap.size) (feeJ_keep L A c w.heap.size)) (.inr ⟨_, _, _, rfl⟩) hok (valX L a b (some (choX L (feeN L) false))) A c _ (h.up HB3) hs ⟨E3.out, hJ⟩).mono ?_
    rintro e w4 ⟨rfl, hp, hm, b4⟩
    have HB4 := bUp HB3 b4 HB3.size
    have hw3 := HB3.size
    clear g3
    go_wp2_with fail
    refine (value0_c hok (valC_great hok (fun _ _ => rfl) (feeN_ok hok) (feeNum_c hok A c w.heap.size fun w hj => hj) 8) w4 hp hm).mono ?_
    rintro e w5 ⟨rfl, _, hg⟩
    go_wp2_with fail
    go_ret2
    exact ⟨rfl, HB4.grown hg HB4.size fun k hk => by injection hk with hk; omega⟩

end Go.Proofs.Ytfobjkdkjlbkfaa
