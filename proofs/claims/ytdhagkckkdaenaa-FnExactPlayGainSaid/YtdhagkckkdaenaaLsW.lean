/- The reference's greatest gain less a fee; whether a fee is fair: both packages' walks. (Written by gen_lsw.py.) -/
import Derived.Test.YtdhagkckkdaenaaIdxL
import Derived.Test.YtdhagkckkdaenaaIdxW
import Derived.Test.YtdhagkckkdaenaaTamM
import Derived.Test.YtdhagkckkdaenaaLvS
namespace Go.Proofs.Ytdhagkckkdaenaa
open Go.RowKit

theorem neB_wt {P W F : List Int} (h : ArmOk P W F) {y : Nat} (hy : y < P.length) {q : Bool} (he : endB P y = q) : (nth W y == 0) = !q := by
  have := h.tree.wt y hy
  subst he
  cases hb : endB P y
  · rw [hb, if_neg (by simp)] at this
    simp [this]
  · rw [hb, if_pos rfl] at this
    simp; omega
set_option maxRecDepth 20000 in
set_option maxHeartbeats 4000000 in
theorem l8Less_c (A1 : Option Addr) (P : List Int) (c1 : Nat) (A2 : Option Addr) (W : List Int) (c2 : Nat) (A3 : Option Addr) (F : List Int) (c3 : Nat) (a b fee : Int) (hk : ArmAB P W F a b) (hf : -99 ≤ fee ∧ fee ≤ 99) :
    ∀ (n x : Nat) (w : World), P.length ≤ x + n → x < P.length → RdM w A1 P A2 W A3 F →
    Calls Try.prog 45 #[mkV A1 P.length c1 A2 W.length c2 A3 F.length c3, .int .i64 a, .int .i64 b, .int .i64 fee, .int .i64 (x : Int)] w (Quietly w (.int .i64 (lsF P W F a b fee x))) := by
  intro n
  induction n with
  | zero => intro x w h1 h2; omega
  | succ n ih =>
    intro x w hn hx h
    have HB1 : Below w.heap.size w (w.alloc (.cells #[.slice A1 P.length c1, .slice A2 W.length c2, .slice A3 F.length c3] 33)) := (Below.refl _ _).alloc (Nat.le_refl _) _
    have bx := Bx3.new w (.slice A1 P.length c1) (.slice A2 W.length c2) (.slice A3 F.length c3) 33
    have hok := hk.arm
    have hn1 := hok.tree.n1
    have hn2 := hok.tree.n2
    have hn9 := hok.n9
    have hpar := hok.tree.par
    have HFL := Lib.hid hok.len
    have HWL := Lib.hid hok.tree.len
    have HN := Lib.hid hn
    have i0 : (0 : Int) ≤ (x : Int) := by omega
    have i1 : (x : Int) < (P.length : Int) := by omega
    have hkl9 : (kids P (x : Int)).length ≤ 9 := Nat.le_trans (kidTo_len P x P.length) hn9
    have hb0 := hk.b0
    have hb4 := hk.b4
    clear hn
    go_enter Try.func45, Try.ntmps45
    go_upto_region 1 with fail
    generalize w.alloc (.cells #[.slice A1 P.length c1, .slice A2 W.length c2, .slice A3 F.length c3] 33) = v at *
    obtain ⟨f0, f1, f2, fz⟩ := id bx
    obtain ⟨a3, rfl, q3⟩ := (h.below HB1 (Nat.le_refl _)).r3.intN (k := x) (by rw [HFL.out]; exact hx)
    have i2 : (x : Int) < (F.length : Int) := by rw [HFL.out]; omega
    have bF := hok.fb x
    have bU := unitX_46 hok hb0 hb4 hx
    have bFU := fU_bd hk hf hx
    have e1 : IntKind.i64.wrap (nth F x - fee) = nth F x - fee := IntWalk.i64_in _ (by omega)
    have e2 : IntKind.i64.wrap ((nth F x - fee) * unitX P W b x) = (nth F x - fee) * unitX P W b x := IntWalk.i64_in _ (by omega)
    have h' := h.below (Below.drew HB1) (Nat.le_refl _)
    have hd1 : Below v.heap.size v v.drew := Below.drew (Below.refl _ _)
    have SK1 : Hid (∀ w', Below v.heap.size v w' → w'.cell? ⟨w.heap.size, 0, none⟩ = some (.slice A1 P.length c1) ∧ w'.cell? ⟨w.heap.size, 1, none⟩ = some (.slice A2 W.length c2) ∧ w'.cell? ⟨w.heap.size, 2, none⟩ = some (.slice (some a3) F.length c3) ∧ w'.cell? (a3.add x) = some (.int .i64 (nth F x))) := Lib.hid fun w' HV => ⟨(HV.cell (p := ⟨w.heap.size, 0, none⟩) fz).trans f0, (HV.cell (p := ⟨w.heap.size, 1, none⟩) fz).trans f1, (HV.cell (p := ⟨w.heap.size, 2, none⟩) fz).trans f2, (HV.cell (cell_lt q3)).trans q3⟩
    clear f0 f1 f2 q3
    have hS1_0 := SK1.out _ hd1
    refine tamed_region (S := fun w' => w'.cell? ⟨w.heap.size, 0, none⟩ = some (.slice A1 P.length c1) ∧ w'.cell? ⟨w.heap.size, 1, none⟩ = some (.slice A2 W.length c2) ∧ w'.cell? ⟨w.heap.size, 2, none⟩ = some (.slice (some a3) F.length c3) ∧ w'.cell? (a3.add x) = some (.int .i64 (nth F x))) (fun _ => false) (by kernel_rfl) ?_
    refine tame0 (k := 0) ?_ rfl (by kernel_rfl) (by kernel_rfl) (by kernel_rfl) (fun _ _ _ h => h) (by kernel_rfl) (fun v => ?_) ?_
    rotate_left
    · (go_simp; all_goals rfl)
    simp only [Act.put, List.setIfInBounds_toArray]
    refine tame (k := 1) ?_ rfl (by kernel_rfl) (by kernel_rfl) (by kernel_rfl) (by kernel_rfl) (fun _ _ _ h => h) (by kernel_rfl) hS1_0 (fun v hv => ?_) ?_
    rotate_left
    · (obtain ⟨k1, k2, k3, k4⟩ := hv; go_simp; all_goals rfl)
    simp only [Act.put]
    refine tame0 (k := 2) ?_ rfl (by kernel_rfl) (by kernel_rfl) (by kernel_rfl) (fun _ _ _ h => h) (by kernel_rfl) (fun v => ?_) ?_
    rotate_left
    · (go_simp; all_goals rfl)
    simp only [Act.put]
    refine tame0 (k := 3) ?_ rfl (by kernel_rfl) (by kernel_rfl) (by kernel_rfl) (fun _ _ _ h => h) (by kernel_rfl) (fun v => ?_) ?_
    rotate_left
    · (go_simp; all_goals rfl)
    simp only [Act.put]
    refine tame (k := 4) ?_ rfl (by kernel_rfl) (by kernel_rfl) (by kernel_rfl) (by kernel_rfl) (fun _ _ _ h => h) (by kernel_rfl) hS1_0 (fun v hv => ?_) ?_
    rotate_left
    · (obtain ⟨k1, k2, k3, k4⟩ := hv; go_simp; all_goals rfl)
    simp only [Act.put]
    refine tame0 (k := 5) ?_ rfl (by kernel_rfl) (by kernel_rfl) (by kernel_rfl) (fun _ _ _ h => h) (by kernel_rfl) (fun v => ?_) ?_
    rotate_left
    · (go_simp; all_goals rfl)
    simp only [Act.put]
    refine tame0 (k := 6) ?_ rfl (by kernel_rfl) (by kernel_rfl) (by kernel_rfl) (fun _ _ _ h => h) (by kernel_rfl) (fun v => ?_) ?_
    rotate_left
    · (go_simp; all_goals rfl)
    simp only [Act.put]
    refine tame (k := 7) ?_ rfl (by kernel_rfl) (by kernel_rfl) (by kernel_rfl) (by kernel_rfl) (fun _ _ _ h => h) (by kernel_rfl) hS1_0 (fun v hv => ?_) ?_
    rotate_left
    · (obtain ⟨k1, k2, k3, k4⟩ := hv; go_simp; all_goals rfl)
    simp only [Act.put]
    refine tame0 (k := 8) ?_ rfl (by kernel_rfl) (by kernel_rfl) (by kernel_rfl) (fun _ _ _ h => h) (by kernel_rfl) (fun v => ?_) ?_
    rotate_left
    · (go_simp; all_goals rfl)
    simp only [Act.put]
    refine tame0 (k := 10) ?_ rfl (by kernel_rfl) (by kernel_rfl) (by kernel_rfl) (fun _ _ _ h => h) (by kernel_rfl) (fun v => ?_) ?_
    rotate_left
    · (go_simp; all_goals rfl)
    simp only [Act.put]
    refine tame0 (k := 14) ?_ rfl (by kernel_rfl) (by kernel_rfl) (by kernel_rfl) (fun _ _ _ h => h) (by kernel_rfl) (fun v => ?_) ?_
    rotate_left
    · (go_simp; all_goals rfl)
    simp only [Act.put]
    refine tame (k := 15) ?_ rfl (by kernel_rfl) (by kernel_rfl) (by kernel_rfl) (by kernel_rfl) (fun _ _ _ h => h) (by kernel_rfl) hS1_0 (fun v hv => ?_) ?_
    rotate_left
    · (obtain ⟨k1, k2, k3, k4⟩ := hv; go_simp; all_goals rfl)
    simp only [Act.put]
    refine tame0 (k := 16) ?_ rfl (by kernel_rfl) (by kernel_rfl) (by kernel_rfl) (fun _ _ _ h => h) (by kernel_rfl) (fun v => ?_) ?_
    rotate_left
    · (go_simp; all_goals rfl)
    simp only [Act.put]
    refine tame_one (k := 9) (by kernel_rfl) rfl (by kernel_rfl) ?_
    go_simp
    refine (l8Units_c A1 P c1 A2 W c2 (some a3) F c3 b _ h'.r1 h'.r2 hok hb0 hb4 _).mono ?_
    rintro e w5 ⟨Au, cu, rfl, ou, b5⟩
    have hd1_1 := bUp hd1 b5 (Nat.le_refl _)
    have hS1_1 := Lib.hid (SK1.out _ hd1_1)
    refine ⟨by first | exact hS1_1 | exact Hid.out hS1_1, ?_⟩
    have HUL := Lib.hid (unitL_length P W b)
    obtain ⟨gu, rfl, hgu, hgu2⟩ := ou.form (by rw [HUL.out]; omega)
    have qu := ou.cellN (k := x) (by rw [HUL.out]; exact hx)
    rw [unitL_nth hx] at qu
    have h5 := h'.below b5 (Nat.le_refl _)
    have SK1m : Hid (∀ w', Below w5.heap.size w5 w' → (w'.cell? ⟨w.heap.size, 0, none⟩ = some (.slice A1 P.length c1) ∧ w'.cell? ⟨w.heap.size, 1, none⟩ = some (.slice A2 W.length c2) ∧ w'.cell? ⟨w.heap.size, 2, none⟩ = some (.slice (some a3) F.length c3) ∧ w'.cell? (a3.add x) = some (.int .i64 (nth F x))) ∧ w'.cell? ⟨gu, x, none⟩ = some (.int .i64 (unitX P W b x))) := Lib.hid fun w' HV => ⟨SK1.out _ (bUp hd1_1 HV hd1_1.size), (HV.cell (p := ⟨gu, x, none⟩) hgu2).trans qu⟩
    clear qu
    have hm1_1 : Below w5.heap.size w5 w5 := Below.refl _ _
    have hS1_1m := SK1m.out _ hm1_1
    refine Tamed.more (S2 := fun w' => (w'.cell? ⟨w.heap.size, 0, none⟩ = some (.slice A1 P.length c1) ∧ w'.cell? ⟨w.heap.size, 1, none⟩ = some (.slice A2 W.length c2) ∧ w'.cell? ⟨w.heap.size, 2, none⟩ = some (.slice (some a3) F.length c3) ∧ w'.cell? (a3.add x) = some (.int .i64 (nth F x))) ∧ w'.cell? ⟨gu, x, none⟩ = some (.int .i64 (unitX P W b x))) (fun _ => rfl) (fun _ h => h.1) _ _ _ _ hS1_1m ?_
    refine tame0 (k := 11) ?_ rfl (by kernel_rfl) (by kernel_rfl) (by kernel_rfl) (fun _ _ _ h => h) (by kernel_rfl) (fun v => ?_) ?_
    rotate_left
    · (go_simp; all_goals rfl)
    simp only [Act.put]
    refine tame (k := 12) ?_ rfl (by kernel_rfl) (by kernel_rfl) (by kernel_rfl) (by kernel_rfl) (fun _ _ _ h => h) (by kernel_rfl) hS1_1m (fun v hv => ?_) ?_
    rotate_left
    · (obtain ⟨⟨k1, k2, k3, k4⟩, k5⟩ := hv; go_simp; all_goals rfl)
    simp only [Act.put]
    refine tame0 (k := 13) ?_ rfl (by kernel_rfl) (by kernel_rfl) (by kernel_rfl) (fun _ _ _ h => h) (by kernel_rfl) (fun v => ?_) ?_
    rotate_left
    · (go_simp; all_goals rfl)
    simp only [Act.put]
    refine tame_one (k := 17) (by kernel_rfl) rfl (by kernel_rfl) ?_
    go_simp
    refine (l2Kids_c A1 P c1 A2 W.length c2 x _ h5.r1 hpar hx hn2).mono ?_
    rintro e w6 ⟨Ak, ck, rfl, ok, b6⟩
    have hd1_2 := bUp hm1_1 b6 (Nat.le_refl _)
    have hS1_2 := Lib.hid (SK1m.out _ hd1_2)
    refine ⟨by first | exact hS1_2 | exact Hid.out hS1_2, ?_⟩
    have ok6 := ok.mono (B' := w.heap.size + 1) (Nat.le_trans fz b5.size)
    have HB6 := HB1.trans (((Below.drew (Below.refl v.heap.size v)).trans (b5.trans (b6.mono b5.size))).mono HB1.size)
    have bx6 := (bx.below ((Below.drew (Below.refl v.heap.size v)).trans (b5.trans (b6.mono b5.size))))
    refine tame_one (k := 18) (by kernel_rfl) rfl (by kernel_rfl) ?_
    go_simp
    refine ⟨by first | exact hS1_2 | exact Hid.out hS1_2, ?_⟩
    refine tame_one (k := 19) (by kernel_rfl) rfl (by kernel_rfl) ?_
    go_simp
    refine ⟨by first | exact hS1_2 | exact Hid.out hS1_2, ?_⟩
    refine tame_end (by kernel_rfl) ?_
    clear ok b5 b6 ou h5 h' bx HB1 e1 e2 SK1 SK1m hd1 hd1_1 hm1_1 hS1_0 hS1_1 hS1_1m hd1_2 hS1_2
    go_wp2_with fail
    go_loopw [11, 13] (fun s i wr => ∃ k : Nat, k ≤ (kids P (x : Int)).length ∧ i = .int .i64 (k : Int) ∧ s = .int .i64 (lsK P W F a b fee x k) ∧ Own wr (w.heap.size + 1) Ak ck (kids P (x : Int)) ∧ Bx3 wr w.heap.size (.slice A1 P.length c1) (.slice A2 W.length c2) (.slice (some a3) F.length c3) ∧ Below w.heap.size w wr) (fun _ i _ => (kids P (x : Int)).length - (intOf i).toNat)
    case atStart => exact ⟨0, by omega, rfl, by rw [lsK_zero], ok6, bx6, HB6⟩
    case round =>
      clear ok6 bx6 HB6
      obtain ⟨k, hkl, rfl, rfl, okk, bx, HB⟩ := hrel
      obtain ⟨wo, rfl⟩ : ∃ wo : World, wo = wr := ⟨_, rfl⟩
      by_cases hlt : k < (kids P (x : Int)).length
      · obtain ⟨f0, f1, f2, fz⟩ := id bx
        have j1 : (k : Int) < ((kids P (x : Int)).length : Int) := by omega
        have j0 : (0 : Int) ≤ (k : Int) := by omega
        obtain ⟨gk, rfl, hgk, hgk2⟩ := okk.form (by omega)
        have qk := okk.cellN hlt
        obtain ⟨y, hy, hxy, hyl, hpy⟩ := kid_at hpar hlt
        rw [hy] at qk
        obtain ⟨a2, rfl, q2⟩ := (h.below HB (Nat.le_refl _)).r2.intN (k := y) (by rw [HWL.out]; exact hyl)
        have y0 : (0 : Int) ≤ (y : Int) := by omega
        have y1 : (y : Int) < (W.length : Int) := by rw [HWL.out]; omega
        have HY := Lib.hid hy
        have hob := lsK_bd hk hf hx k hkl
        clear hy hpy
        cases hey : endB P y
        · have e1 := neB_wt hok hyl hey
          have HS := Lib.hid (lsK_in (W := W) (F := F) (a := a) (b := b) (fee := fee) HY.out hey)
          have ha := aLs_bd hk hf hyl
          have hob1 : Hid (IntKind.i64.wrap (lsK P W F a b fee x k + a * mxI (lsF P W F a b fee y) 0) = lsK P W F a b fee x k + a * mxI (lsF P W F a b fee y) 0) := Lib.hid (IntWalk.i64_in _ (by omega))
          have hob2 : Hid (IntKind.i64.wrap (a * mxI (lsF P W F a b fee y) 0) = a * mxI (lsF P W F a b fee y) 0) := Lib.hid (IntWalk.i64_in _ (by omega))
          clear hey
          go_wp2
          go_quiet (fail)
          rename_i nq
          go_upto_region 6 with fail
          obtain ⟨v, hv⟩ : ∃ v, v = wo.drewN nq := ⟨_, rfl⟩
          rw [← hv]
          have D : Dr wo v := ⟨nq, hv⟩
          have okv := okk.dr D
          have HBv := D.below HB
          have bxv := bx3_dr bx D
          clear hv D f0 f1 f2 fz q2 qk okk HB bx
          obtain ⟨f0, f1, f2, fz⟩ := id bxv
          have qk := okv.cellN hlt
          rw [HY.out] at qk
          have hgk3 := (okv.lt _ rfl).2
          have e2 := hob1.out
          have e3 := hob2.out
          have hd2 : Below v.heap.size v v.drew := Below.drew (Below.refl _ _)
          have SK2 : Hid (∀ w', Below v.heap.size v w' → w'.cell? ⟨w.heap.size, 0, none⟩ = some (.slice A1 P.length c1) ∧ w'.cell? ⟨w.heap.size, 1, none⟩ = some (.slice (some a2) W.length c2) ∧ w'.cell? ⟨w.heap.size, 2, none⟩ = some (.slice (some a3) F.length c3) ∧ w'.cell? ⟨gk, k, none⟩ = some (.int .i64 (y : Int))) := Lib.hid fun w' HV => ⟨(HV.cell (p := ⟨w.heap.size, 0, none⟩) fz).trans f0, (HV.cell (p := ⟨w.heap.size, 1, none⟩) fz).trans f1, (HV.cell (p := ⟨w.heap.size, 2, none⟩) fz).trans f2, (HV.cell (p := ⟨gk, k, none⟩) hgk3).trans qk⟩
          clear f0 f1 f2 qk
          have hS2_0 := SK2.out _ hd2
          refine tamed_region (S := fun w' => w'.cell? ⟨w.heap.size, 0, none⟩ = some (.slice A1 P.length c1) ∧ w'.cell? ⟨w.heap.size, 1, none⟩ = some (.slice (some a2) W.length c2) ∧ w'.cell? ⟨w.heap.size, 2, none⟩ = some (.slice (some a3) F.length c3) ∧ w'.cell? ⟨gk, k, none⟩ = some (.int .i64 (y : Int))) (fun _ => false) (by kernel_rfl) ?_
          refine tame0 (k := 0) ?_ rfl (by kernel_rfl) (by kernel_rfl) (by kernel_rfl) (fun _ _ _ h => h) (by kernel_rfl) (fun v => ?_) ?_
          rotate_left
          · (go_simp; all_goals rfl)
          simp only [Act.put, List.setIfInBounds_toArray]
          refine tame0 (k := 1) ?_ rfl (by kernel_rfl) (by kernel_rfl) (by kernel_rfl) (fun _ _ _ h => h) (by kernel_rfl) (fun v => ?_) ?_
          rotate_left
          · (go_simp; all_goals rfl)
          simp only [Act.put]
          refine tame (k := 2) ?_ rfl (by kernel_rfl) (by kernel_rfl) (by kernel_rfl) (by kernel_rfl) (fun _ _ _ h => h) (by kernel_rfl) hS2_0 (fun v hv => ?_) ?_
          rotate_left
          · (obtain ⟨k1, k2, k3, k4⟩ := hv; go_simp; all_goals rfl)
          simp only [Act.put]
          refine tame0 (k := 3) ?_ rfl (by kernel_rfl) (by kernel_rfl) (by kernel_rfl) (fun _ _ _ h => h) (by kernel_rfl) (fun v => ?_) ?_
          rotate_left
          · (go_simp; all_goals rfl)
          simp only [Act.put]
          refine tame0 (k := 4) ?_ rfl (by kernel_rfl) (by kernel_rfl) (by kernel_rfl) (fun _ _ _ h => h) (by kernel_rfl) (fun v => ?_) ?_
          rotate_left
          · (go_simp; all_goals rfl)
          simp only [Act.put]
          refine tame0 (k := 5) ?_ rfl (by kernel_rfl) (by kernel_rfl) (by kernel_rfl) (fun _ _ _ h => h) (by kernel_rfl) (fun v => ?_) ?_
          rotate_left
          · (go_simp; all_goals rfl)
          simp only [Act.put]
          refine tame0 (k := 6) ?_ rfl (by kernel_rfl) (by kernel_rfl) (by kernel_rfl) (fun _ _ _ h => h) (by kernel_rfl) (fun v => ?_) ?_
          rotate_left
          · (go_simp; all_goals rfl)
          simp only [Act.put]
          refine tame0 (k := 7) ?_ rfl (by kernel_rfl) (by kernel_rfl) (by kernel_rfl) (fun _ _ _ h => h) (by kernel_rfl) (fun v => ?_) ?_
          rotate_left
          · (go_simp; all_goals rfl)
          simp only [Act.put]
          refine tame0 (k := 8) ?_ rfl (by kernel_rfl) (by kernel_rfl) (by kernel_rfl) (fun _ _ _ h => h) (by kernel_rfl) (fun v => ?_) ?_
          rotate_left
          · (go_simp; all_goals rfl)
          simp only [Act.put]
          refine tame (k := 9) ?_ rfl (by kernel_rfl) (by kernel_rfl) (by kernel_rfl) (by kernel_rfl) (fun _ _ _ h => h) (by kernel_rfl) hS2_0 (fun v hv => ?_) ?_
          rotate_left
          · (obtain ⟨k1, k2, k3, k4⟩ := hv; go_simp; all_goals rfl)
          simp only [Act.put]
          refine tame_one (k := 10) (by kernel_rfl) rfl (by kernel_rfl) ?_
          go_simp
          refine (ih y _ (by have := HN.out; omega) hyl (h.below (Below.drew HBv) (Nat.le_refl _))).mono ?_
          rintro e w5 ⟨rfl, b5⟩
          have hd2_1 := bUp hd2 b5 (Nat.le_refl _)
          have hS2_1 := Lib.hid (SK2.out _ hd2_1)
          refine ⟨by first | exact hS2_1 | exact Hid.out hS2_1, ?_⟩
          refine tame_one (k := 11) (by kernel_rfl) rfl (by kernel_rfl) ?_
          go_simp
          refine (l1Most_is _ _ _ rfl _).mono ?_
          rintro e w6 ⟨rfl, rfl⟩
          refine ⟨by first | exact hS2_1 | exact Hid.out hS2_1, ?_⟩
          refine tame_one (k := 12) (by kernel_rfl) rfl (by kernel_rfl) ?_
          go_simp
          refine ⟨by first | exact hS2_1 | exact Hid.out hS2_1, ?_⟩
          refine tame_one (k := 13) (by kernel_rfl) rfl (by kernel_rfl) ?_
          go_simp
          refine ⟨by first | exact hS2_1 | exact Hid.out hS2_1, ?_⟩
          rw [← HS.out]
          refine tame_one (k := 14) (by kernel_rfl) rfl (by kernel_rfl) ?_
          go_simp
          refine ⟨by first | exact hS2_1 | exact Hid.out hS2_1, ?_⟩
          refine tame_end (by kernel_rfl) ?_
          have H5 := (Below.drew (Below.refl v.heap.size v)).trans b5
          clear SK2 hd2 hd2_1 hS2_0 hS2_1 e1 e2 e3
          go_wp2_with fail
          go_roundw
          case rel => exact ⟨k + 1, hlt, by go_num, rfl, okv.below H5, bxv.below H5, HBv.trans (H5.mono HBv.size)⟩
          case measure => simp [intOf] <;> omega
        · have e1 := neB_wt hok hyl hey
          have HS := Lib.hid (lsK_end (W := W) (F := F) (a := a) (b := b) (fee := fee) HY.out hey)
          clear hey
          go_wp2
          go_quiet (fail)
          go_wp2
          rename_i nq
          have D : Dr wo (wo.drewN nq) := ⟨nq, rfl⟩
          go_roundw
          case rel => exact ⟨k + 1, hlt, by go_num, by rw [HS.out], okk.dr D, bx3_dr bx D, D.below HB⟩
          case measure => simp [intOf] <;> omega
      · obtain rfl : k = (kids P (x : Int)).length := by omega
        have HV := Lib.hid (lsK_all (W := W) (F := F) (a := a) (b := b) hpar (fee := fee) hx)
        go_wp2
        go_ret
        exact ⟨by rw [HV.out] <;> rfl, HB⟩
end Go.Proofs.Ytdhagkckkdaenaa
