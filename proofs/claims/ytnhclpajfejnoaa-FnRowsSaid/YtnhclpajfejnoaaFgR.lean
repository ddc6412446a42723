/- FreeGain: the reference's function. (Written by gen_fgr.py.) -/
import Derived.Test.YtnhclpajfejnoaaFgS
namespace Go.Proofs.Ytnhclpajfejnoaa
open Go.RowKit

set_option maxRecDepth 20000 in
set_option maxHeartbeats 1000000 in
theorem l6Uneven_c (A1 : Option Addr) (P : List Int) (c1 : Nat) (A2 : Option Addr) (n2 c2 : Nat) (A3 : Option Addr) (F : List Int) (c3 : Nat) (w : World) (h1 : Rd w A1 (ints P)) (h3 : Rd w A3 (ints F)) (hp : ParOk P) (hn : P.length ≤ 24) (hF : F.length = P.length) :
    Calls Try.prog 77 #[mkV A1 P.length c1 A2 n2 c2 A3 F.length c3] w (Quietly w (.int .i64 (unK P F))) := by
  have HB1 : Below w.heap.size w (w.alloc (.cells #[.slice A1 P.length c1, .slice A2 n2 c2, .slice A3 F.length c3] 28)) := (Below.refl _ _).alloc (Nat.le_refl _) _
  have bx := Bx3.new w (.slice A1 P.length c1) (.slice A2 n2 c2) (.slice A3 F.length c3) 28
  have HF := Lib.hid hF
  have hf24 : F.length ≤ 24 := by omega
  clear hF
  go_enter Try.func77, Try.ntmps77
  go_wp2
  go_loopw [3] (fun i wr => ∃ k : Nat, k ≤ F.length ∧ i = .int .i64 (k : Int) ∧ (∀ j, j < k → unB P F j = false) ∧ Bx3 wr w.heap.size (.slice A1 P.length c1) (.slice A2 n2 c2) (.slice A3 F.length c3) ∧ Below w.heap.size w wr) (fun i _ => F.length - (intOf i).toNat)
  case atStart => exact ⟨0, by omega, rfl, fun j hj => by omega, bx, HB1⟩
  case round =>
    obtain ⟨k, hk, rfl, hall, hx, hB⟩ := hrel
    clear HB1 bx
    have HA := Lib.hid hall
    clear hall
    have hx' := hx
    obtain ⟨f0, f1, f2, fz⟩ := hx
    by_cases hlt : k < F.length
    · go_wp2_with fail
      refine (l6Sides_c A1 P c1 A2 n2 c2 A3 F c3 k _ (h1.below hB (Nat.le_refl _)) (h3.below hB (Nat.le_refl _)) hp hn HF.out (by have := HF.out; omega)).mono ?_
      rintro e w2 ⟨rfl, hb2⟩
      have HB2 := bUp hB hb2 hB.size
      have hx2 := (hx'.below hb2).alloc (.cells #[.int .i64 ((lessL P F k).length : Int), .int .i64 ((sameL P F k).length : Int), .int .i64 ((moreL P F k).length : Int)] 90)
      have HB3 : Below w.heap.size w (w2.alloc (.cells #[.int .i64 ((lessL P F k).length : Int), .int .i64 ((sameL P F k).length : Int), .int .i64 ((moreL P F k).length : Int)] 90)) := HB2.alloc HB2.size _
      clear f0 f1 f2 fz hb2
      have HU := Lib.hid (show unB P F k = (decide (0 < (lessL P F k).length) != decide (0 < (moreL P F k).length)) from rfl)
      cases hub : unB P F k
      · have HN : Hid (∀ j, j < k + 1 → unB P F j = false) := Lib.hid fun j hj => by
          rcases Nat.lt_or_ge j k with h' | h'
          · exact HA.out j h'
          · rw [show j = k by omega]; exact hub
        have HUB := Lib.hid hub
        clear hub
        by_cases hl : 0 < (lessL P F k).length <;> by_cases hm : 0 < (moreL P F k).length
        · go_wp2
          go_roundw
          case rel => exact ⟨k + 1, by omega, by go_num, HN.out, hx2, HB3⟩
          case measure => simp [intOf] <;> omega
        · have := HU.out; rw [HUB.out, decide_eq_true hl, decide_eq_false hm] at this; cases this
        · have := HU.out; rw [HUB.out, decide_eq_false hl, decide_eq_true hm] at this; cases this
        · go_wp2
          go_roundw
          case rel => exact ⟨k + 1, by omega, by go_num, HN.out, hx2, HB3⟩
          case measure => simp [intOf] <;> omega
      · have HN := Lib.hid (unK_eq (by have := HF.out; omega) hub HA.out)
        have HUB := Lib.hid hub
        clear hub
        by_cases hl : 0 < (lessL P F k).length <;> by_cases hm : 0 < (moreL P F k).length
        · have := HU.out; rw [HUB.out, decide_eq_true hl, decide_eq_true hm] at this; cases this
        · go_wp2
          go_ret
          exact ⟨by rw [HN.out] <;> rfl, HB3⟩
        · go_wp2
          go_ret
          exact ⟨by rw [HN.out] <;> rfl, HB3⟩
        · have := HU.out; rw [HUB.out, decide_eq_false hl, decide_eq_false hm] at this; cases this
    · have HN := Lib.hid (unK_none (P := P) (F := F) fun j hj => HA.out j (by have := HF.out; omega))
      go_wp2
      go_ret
      exact ⟨by rw [HN.out] <;> rfl, hB⟩

section
variable {o : Oper} {a : Act} {Q : Exit → Act → World → Prop}
/-- 'make([]int, n)' as one operation. -/
theorem op_make_ints {K : Act → World → Prop} (w : World) (l c : Operand) (hop : o.op = Op.makeSlice 24 l c) (kl kc : IntKind) (L C : Int) (n : Nat)
    (hl : a.eval l = .int kl L) (hc : a.eval c = .int kc C) (hL : L = (n : Int)) (hC : C = (n : Int)) (hn : n ≤ 16777216)
    (hK : ∀ w', Own w' w.heap.size (some ⟨w.heap.size, 0, none⟩) n (List.replicate n 0) → Below w.heap.size w w' → K (a.put o.dst (.slice (some ⟨w.heap.size, 0, none⟩) n n)) w') :
    o.wp Try.prog a w K Q := by
  obtain ⟨i0, hi, hz0, hz1, hz2⟩ := info_parts int_info
  obtain ⟨w', hrun, r1, r2⟩ := run_make_full (P := Try.prog) w w.heap.size 24 3 i0 _ 1 Try.underlying24 hi hz0 hz1 kl kc n (by rw [hz2]; omega) (by unfold maxLen; omega) (Nat.le_refl _)
  subst hL
  subst hC
  unfold Oper.wp
  simp [execOp, hop, hl, hc, hrun, Result.andThen]
  refine hK w' (own_of _ _ _ n _ _ (by simp) ?_) (below_of_grown r2)
  rw [← madeInts]
  exact r1
end

theorem idx3 (x y z : Int) (w : World) : Sem.run Try.prog (Instr.index 90 (.agg #[.int .i64 x, .int .i64 y, .int .i64 z]) (.int .i64 0)) w = .ok (.int .i64 x) w := by kernel_rfl
set_option maxRecDepth 20000 in
set_option maxHeartbeats 2000000 in
theorem specFg_c (A1 : Option Addr) (P : List Int) (c1 : Nat) (A2 : Option Addr) (W : List Int) (c2 : Nat) (A3 : Option Addr) (F : List Int) (c3 : Nat) (w : World) (h : RdM w A1 P A2 W A3 F) :
    Calls Try.prog 25 #[mkV A1 P.length c1 A2 W.length c2 A3 F.length c3] w (Gives w (fgV P W F) (fgB P W F)) := by
  have HB1 : Below w.heap.size w (w.alloc (.cells #[.slice A1 P.length c1, .slice A2 W.length c2, .slice A3 F.length c3] 28)) := (Below.refl _ _).alloc (Nat.le_refl _) _
  have bx := Bx3.new w (.slice A1 P.length c1) (.slice A2 W.length c2) (.slice A3 F.length c3) 28
  have hv := h.below HB1 (Nat.le_refl _)
  cases hm : mktB P W F
  · have HQ := Lib.hid (fgB_1 hm)
    rw [fgV_no HQ.out, HQ.out]
    go_enter Try.func25, Try.ntmps25
    go_wp2_with fail
    refine (l6Market_is _ _ _ _ _ _ _ _ _ _ hm _ hv).mono ?_
    rintro e w2 ⟨rfl, hb2⟩
    have HB2 := bUp HB1 hb2 HB1.size
    have O2 := Own.lit0 w2 _ rfl
    have HB3 : Below w.heap.size w (w2.alloc (.cells #[] 3)) := HB2.alloc HB2.size _
    go_wp2
    go_ret2
    exact ⟨_, _, rfl, O2.mono HB2.size, HB3⟩
  · have HM := Lib.hid (mktB_iff.1 hm)
    rcases unK_cases P F with ⟨hu, _⟩ | ⟨k, hk, hu, _⟩
    · have HQ := Lib.hid (fgB_2 (W := W) hu)
      rw [fgV_no HQ.out, HQ.out]
      go_enter Try.func25, Try.ntmps25
      go_wp2_with fail
      refine (l6Market_is _ _ _ _ _ _ _ _ _ _ hm _ hv).mono ?_
      rintro e w2 ⟨rfl, hb2⟩
      have HB2 := bUp HB1 hb2 HB1.size
      obtain ⟨f0, f1, f2, fz⟩ := bx.below hb2
      go_wp2_with fail
      refine (l6Uneven_c _ _ _ _ _ _ _ _ _ _ (h.below HB2 (Nat.le_refl _)).r1 (h.below HB2 (Nat.le_refl _)).r3 HM.out.1.par HM.out.1.n2 HM.out.2.1).mono ?_
      rintro e w3 ⟨rfl, hb3⟩
      rw [hu]
      have HB3 := bUp HB2 hb3 HB2.size
      have O3 := Own.lit0 w3 _ rfl
      have HB4 : Below w.heap.size w (w3.alloc (.cells #[] 3)) := HB3.alloc HB3.size _
      go_wp2
      go_ret2
      exact ⟨_, _, rfl, O3.mono HB3.size, HB4⟩
    · have HQ := Lib.hid (fgB_3 hm hu)
      have HU := Lib.hid hu
      rw [fgV_yes HQ.out, HQ.out]
      have hn2 := HM.out.1.n2
      have hkF : k < F.length := by have := HM.out.2.1; omega
      have hfl : F.length ≤ 24 := by have := HM.out.2.1; omega
      clear hu
      go_enter Try.func25, Try.ntmps25
      go_wp2_with fail
      refine (l6Market_is _ _ _ _ _ _ _ _ _ _ hm _ hv).mono ?_
      rintro e w2 ⟨rfl, hb2⟩
      have HB2 := bUp HB1 hb2 HB1.size
      have bx2 := bx.below hb2
      obtain ⟨f0, f1, f2, fz⟩ := id bx2
      go_wp2_with fail
      refine (l6Uneven_c _ _ _ _ _ _ _ _ _ _ (h.below HB2 (Nat.le_refl _)).r1 (h.below HB2 (Nat.le_refl _)).r3 HM.out.1.par HM.out.1.n2 HM.out.2.1).mono ?_
      rintro e w3 ⟨rfl, hb3⟩
      rw [HU.out]
      have HB3 := bUp HB2 hb3 HB2.size
      have bx3 := bx2.below hb3
      clear f0 f1 f2 fz bx bx2 hv hb2 hb3 hm
      go_upto_region 3 with fail
      go_cut [4, 5] (fun s4 s5 wx => ∃ g : Nat, s4 = .slice (some ⟨g, 0, none⟩) F.length F.length ∧ s5 = .int .i64 (k : Int) ∧ Own wx (w.heap.size + 1) (some ⟨g, 0, none⟩) F.length (List.replicate F.length 0) ∧
        Bx3 wx w.heap.size (.slice A1 P.length c1) (.slice A2 W.length c2) (.slice A3 F.length c3) ∧ Below w.heap.size w wx)
      case first =>
        obtain ⟨f0, f1, f2, fz⟩ := id bx3
        have hvv := h.below HB3 (Nat.le_refl _)
        have SK : Hid (∀ w', Below w3.heap.size w3 w' → w'.cell? ⟨w.heap.size, 0, none⟩ = some (.slice A1 P.length c1) ∧ w'.cell? ⟨w.heap.size, 1, none⟩ = some (.slice A2 W.length c2) ∧ w'.cell? ⟨w.heap.size, 2, none⟩ = some (.slice A3 F.length c3)) :=
          Lib.hid fun w' HV => ⟨(HV.cell (p := ⟨w.heap.size, 0, none⟩) fz).trans f0, (HV.cell (p := ⟨w.heap.size, 1, none⟩) fz).trans f1, (HV.cell (p := ⟨w.heap.size, 2, none⟩) fz).trans f2⟩
        clear f0 f1 f2
        have hd : Below w3.heap.size w3 w3.drew := Below.drew (Below.refl _ _)
        have hS0 := SK.out w3.drew hd
        have hz3 : w3.drew.heap.size = w3.heap.size := rfl
        refine tamed_region (S := fun w' => w'.cell? ⟨w.heap.size, 0, none⟩ = some (.slice A1 P.length c1) ∧ w'.cell? ⟨w.heap.size, 1, none⟩ = some (.slice A2 W.length c2) ∧ w'.cell? ⟨w.heap.size, 2, none⟩ = some (.slice A3 F.length c3)) (fun _ => false) (by kernel_rfl) ?_
        refine tame0 (k := 0) ?_ rfl (by kernel_rfl) (by kernel_rfl) (by kernel_rfl) (fun _ _ _ h => h) (by rfl) (fun v => ?_) ?_
        rotate_left
        · (go_simp; all_goals rfl)
        simp only [Act.put, List.setIfInBounds_toArray]
        refine tame (k := 1) ?_ rfl (by kernel_rfl) (by kernel_rfl) (by kernel_rfl) (by kernel_rfl) (fun _ _ _ h => h) (by rfl) hS0 (fun v hv => ?_) ?_
        rotate_left
        · (obtain ⟨k1, k2, k3⟩ := hv; go_simp; all_goals rfl)
        simp only [Act.put]
        refine tame0 (k := 2) ?_ rfl (by kernel_rfl) (by kernel_rfl) (by kernel_rfl) (fun _ _ _ h => h) (by rfl) (fun v => ?_) ?_
        rotate_left
        · (go_simp; all_goals rfl)
        simp only [Act.put]
        refine tame (k := 4) ?_ rfl (by kernel_rfl) (by kernel_rfl) (by kernel_rfl) (by kernel_rfl) (fun _ _ _ h => h) (by rfl) hS0 (fun v hv => ?_) ?_
        rotate_left
        · (obtain ⟨k1, k2, k3⟩ := hv; go_simp; all_goals rfl)
        simp only [Act.put]
        clear hS0
        refine tame_two (i := 3) (j := 5) (by kernel_rfl) rfl rfl (by rfl) (by rfl) ?_ ?_
        · refine op_make_ints _ (.tmp 17) (.tmp 17) rfl _ _ _ _ F.length rfl rfl rfl rfl (by omega) ?_
          intro w4 o4 b4
          have H4 := bUp hd b4 (Nat.le_refl _)
          refine ⟨fun _ => SK.out _ H4, ?_⟩
          refine tame_one (k := 5) (by kernel_rfl) rfl (by rfl) ?_
          go_simp
          refine (l6Uneven_c A1 P c1 A2 W.length c2 A3 F c3 _ (hvv.below H4 (Nat.le_refl _)).r1 (hvv.below H4 (Nat.le_refl _)).r3 HM.out.1.par HM.out.1.n2 HM.out.2.1).mono ?_
          rintro e w5 ⟨rfl, b5⟩
          rw [HU.out]
          have H5 := bUp H4 b5 H4.size
          refine ⟨SK.out _ H5, ?_⟩
          refine tame_one (k := 6) (by kernel_rfl) rfl (by rfl) ?_
          go_simp
          refine ⟨SK.out _ H5, ?_⟩
          refine tame_one (k := 7) (by kernel_rfl) rfl (by rfl) ?_
          go_simp
          refine ⟨SK.out _ H5, ?_⟩
          refine tame_end (by kernel_rfl) ?_
          go_wp2_with fail
          go_meet
          exact ⟨_, rfl, rfl, (o4.below b5).mono (by omega), bx3.below H5, bUp HB3 H5 HB3.size⟩
        · go_simp
          refine (l6Uneven_c A1 P c1 A2 W.length c2 A3 F c3 _ (hvv.below hd (Nat.le_refl _)).r1 (hvv.below hd (Nat.le_refl _)).r3 HM.out.1.par HM.out.1.n2 HM.out.2.1).mono ?_
          rintro e w5 ⟨rfl, b5⟩
          rw [HU.out]
          have H5 := bUp hd b5 (Nat.le_refl _)
          have z5 := H5.size
          refine ⟨SK.out _ H5, ?_⟩
          refine tame_one (k := 3) (by kernel_rfl) rfl (by rfl) ?_
          refine op_make_ints _ (.tmp 17) (.tmp 17) rfl _ _ _ _ F.length rfl rfl rfl rfl (by omega) ?_
          intro w4 o4 b4
          have H4 := bUp H5 b4 z5
          refine ⟨fun _ => SK.out _ H4, ?_⟩
          refine tame_one (k := 6) (by kernel_rfl) rfl (by rfl) ?_
          go_simp
          refine ⟨SK.out _ H4, ?_⟩
          refine tame_one (k := 7) (by kernel_rfl) rfl (by rfl) ?_
          go_simp
          refine ⟨SK.out _ H4, ?_⟩
          refine tame_end (by kernel_rfl) ?_
          go_wp2_with fail
          go_meet
          exact ⟨_, rfl, rfl, (o4).mono (by omega), bx3.below H4, bUp HB3 H4 HB3.size⟩
      case rest =>
      obtain ⟨g, rfl, rfl, o4, bx4, HB4⟩ := hcut
      obtain ⟨u0, hco⟩ := o4.some_ (k := k) (by simp; omega)
      have hfo := o4.frozen k
      have hst := o4.set k 1
      have hgl := (o4.lt _ rfl).1
      simp only at hgl
      have HB5 := HB4.grown hst.2 HB4.size (fun k hk => by cases hk; omega)
      have bx5 := bx4.grownR hst.2 (by simp; omega)
      obtain ⟨f0, f1, f2, fz⟩ := id bx5
      go_wp2_with fail
      refine (l6Sides_c A1 P c1 A2 W.length c2 A3 F c3 k _ (h.below HB5 (Nat.le_refl _)).r1 (h.below HB5 (Nat.le_refl _)).r3 HM.out.1.par HM.out.1.n2 HM.out.2.1 hk).mono ?_
      rintro e w5 ⟨rfl, hb5⟩
      have HB6 := bUp HB5 hb5 HB5.size
      have hix := idx3 ((lessL P F k).length : Int) ((sameL P F k).length : Int) ((moreL P F k).length : Int) w5
      have ho5 := hst.1.below hb5
      have hle := side_len P F k (kids P (k : Int)).length
      have hk24 := kidTo_len P (k : Int) P.length
      change (kids P (k : Int)).length ≤ _ at hk24
      clear hco hfo f0 f1 f2 fz bx4 bx5 hst hb5 bx3
      by_cases hl : 0 < (lessL P F k).length
      · have HG := Lib.hid (gain_1 HU.out hl)
        obtain ⟨u5, hc5⟩ := ho5.some_ (k := k) (by simp; omega)
        have hf5 := ho5.frozen k
        have hs5 := ho5.set k (-1)
        have HB7 := HB6.grown hs5.2 HB6.size (fun k hk => by cases hk; omega)
        go_wp2
        go_ret2
        exact ⟨_, _, by rw [gainL_length, ← HM.out.2.1] <;> rfl, by rw [HG.out, ← HM.out.2.1]; exact hs5.1.mono (by omega), HB7⟩
      · have HG := Lib.hid (gain_0 HU.out hl)
        go_wp2
        go_ret2
        exact ⟨_, _, by rw [gainL_length, ← HM.out.2.1] <;> rfl, by rw [HG.out, ← HM.out.2.1]; exact ho5.mono (by omega), HB6⟩
end Go.Proofs.Ytnhclpajfejnoaa
