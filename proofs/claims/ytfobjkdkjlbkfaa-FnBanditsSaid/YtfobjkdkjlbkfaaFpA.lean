/- The first play: both sides, the law's walk. -/
import Derived.Test.YtfobjkdkjlbkfaaGmB
import Derived.Test.YtfobjkdkjlbkfaaMksA
namespace Go.Proofs.Ytfobjkdkjlbkfaa
open Go.RowKit
open Go.RowKit Go.Maps

/-- Arm i is played best first. -/
def fpHit (L : List Mkd) (a b : Int) (i : Nat) : Bool := decide (0 < valX L a b none (fun _ => 0)) && (canX L (fun _ => 0) i && decide (aft L a b (valX L a b none) (fun _ => 0) i = valX L a b none (fun _ => 0)))
def fpI (L : List Mkd) (a b : Int) : Int := match (List.range L.length).find? (fpHit L a b) with
  | some i => (i : Int)
  | none => -1
def fpV (L : List Mkd) (a b : Int) : Int := if armsB L a b then fpI L a b else 0
theorem fpV_no {L : List Mkd} {a b : Int} (h : armsB L a b = false) : fpV L a b = 0 := by simp [fpV, h]
theorem fpV_yes {L : List Mkd} {a b : Int} (h : armsB L a b = true) : fpV L a b = fpI L a b := by simp [fpV, h]
theorem find_first {f : Nat → Bool} {n k : Nat} (hk : k < n) (h : f k = true) (hl : ∀ j, j < k → f j = false) : (List.range n).find? f = some k := by
  rw [List.find?_eq_some_iff_getElem]
  refine ⟨h, k, by simpa using hk, by simp, fun j hj => ?_⟩
  simp only [List.getElem_range]
  rw [hl j hj]
  rfl
theorem fpI_hit {L : List Mkd} {a b : Int} {k : Nat} (hk : k < L.length) (h : fpHit L a b k = true) (hl : ∀ j, j < k → fpHit L a b j = false) : fpI L a b = (k : Int) := by
  unfold fpI
  rw [find_first hk h hl]
theorem fpI_none {L : List Mkd} {a b : Int} (hl : ∀ j, j < L.length → fpHit L a b j = false) : fpI L a b = -1 := by
  unfold fpI
  have : (List.range L.length).find? (fpHit L a b) = none := by
    rw [List.find?_eq_none]
    intro j hj
    rw [hl j (by simpa using hj)]
    decide
  rw [this]
set_option maxRecDepth 20000 in
set_option maxHeartbeats 4000000 in
theorem implFp_c (A : Option Addr) (L : List Mkd) (c : Nat) (a b : Int) (w : World) (h : RdMs w A L) (hs : SzMs L) :
    Calls Try.prog 25 #[.slice A L.length c, .int .i64 a, .int .i64 b] w (Quietly w (.tuple #[.int .i64 (fpV L a b), .bool (armsB L a b)])) := by
  cases hq : armsB L a b
  · rw [fpV_no hq]
    go_enter Try.func25, Try.ntmps25
    go_wp2_with fail
    refine (areArms_is A L c a b _ hq _ h hs).mono ?_
    rintro e w2 ⟨rfl, b2⟩
    go_wp2
    go_ret2
    exact ⟨rfl, b2⟩
  · rw [fpV_yes hq]
    have hok := armsB_iff.1 hq
    have hn3 := hok.n3
    go_enter Try.func25, Try.ntmps25
    go_wp2_with fail
    refine (areArms_is A L c a b _ hq _ h hs).mono ?_
    rintro e w2 ⟨rfl, b2⟩
    go_wp2_with fail
    refine (newPyS (pl := noPl) (.inl rfl) hok (valX L a b none) A c _ (h.below b2 (Nat.le_refl _)) hs trivial).mono ?_
    rintro e w3 ⟨rfl, hp, hm, b3⟩
    have HB3 := bUp b2 b3 b2.size
    have hw2 := b2.size
    have hgs : w2.heap.size < w3.heap.size := by
      obtain ⟨l, ho, _⟩ := hm
      exact ho.lt
    have x3 := Bx3.new w3 (.int .i64 0) (.int .i64 0) (.int .i64 0) 95
    have bl : Below w3.heap.size w3 (w3.alloc (.cells #[.int .i64 0, .int .i64 0, .int .i64 0] 95)) := (Below.refl _ _).alloc (Nat.le_refl _) _
    have hp4 := hp.below bl
    have hm4 := hm.kept (grown_of_below bl none) (by simp)
    have HB4 := bUp HB3 bl HB3.size
    have hA := h.below b2 (Nat.le_refl _)
    generalize w2.heap.size + 1 = p at *
    generalize w2.heap.size = gm at *
    go_wp2_with fail
    generalize w3.alloc (.cells #[.int .i64 0, .int .i64 0, .int .i64 0] 95) = w4 at *
    refine (value0_c hok (valC_none hok _ _ 8) w4 hp4 hm4).mono ?_
    rintro e w5 ⟨rfl, hm5, hg5⟩
    have cs5 : CS w4 w5 := ⟨hg5.size, memo_same hm4 hm5 hg5⟩
    have HB5 := HB4.grown hg5 HB4.size fun k hk => by injection hk with hk; omega
    have HX := Lib.hid x3
    have HP4 := Lib.hid hp4
    have HM5 := Lib.hid hm5
    have e28 : (28 : Nat) ^ 9 + 3 * (9 * 28 ^ 8) ≤ 4611686018427387904 := by decide
    have E28 := Lib.hid e28
    clear x3 hp4 hm4 hm5 hg5 hp hm b3 HB3 bl HB4 hgs e28 hA
    generalize hv0 : valX L a b none (fun _ => 0) = v0 at *
    have HV0 := Lib.hid hv0
    clear hv0
    have hn9 := hs.1
    go_wp2_with fail
    go_loopw [27] (fun i wr => ∃ (k N : Nat), k ≤ L.length ∧ i = .int .i64 (k : Int) ∧ N ≤ 28 ^ 9 + k * (9 * 28 ^ 8) ∧ CS w4 wr ∧ Below w.heap.size w wr ∧ MemoOk wr gm N (At3 L) (valX L a b none) ∧ ∀ j, j < k → fpHit L a b j = false) (fun i _ => L.length - (intOf i).toNat)
    case atStart => exact ⟨0, 28 ^ 9, by omega, rfl, by omega, cs5, HB5, HM5.out, fun j hj => by omega⟩
    case round =>
      clear cs5 HB5 HM5
      obtain ⟨v, rfl⟩ : ∃ v : World, v = wr := ⟨_, rfl⟩
      obtain ⟨k, N, hk, rfl, hN, hcs, HB, hmo, hall⟩ := hrel
      have HALL := Lib.hid hall
      have HMO := Lib.hid hmo
      have HN := Lib.hid hN
      clear hall hmo hN
      have x0 := hcs.cell HX.out.1
      have x1 := hcs.cell HX.out.2.1
      have x2 := hcs.cell HX.out.2.2.1
      by_cases hlt : k < L.length
      · have next : fpHit L a b k = false → ∀ j, j < k + 1 → fpHit L a b j = false := fun h j hj => by
          rcases Nat.lt_or_ge j k with h' | h'
          · exact HALL.out j h'
          · obtain rfl : j = k := by omega
            exact h
        have NEXT := Lib.hid next
        clear next
        have hkk : N ≤ 28 ^ 9 + (k + 1) * (9 * 28 ^ 8) := Nat.le_trans HN.out (Nat.add_le_add_left (Nat.mul_le_mul_right _ (Nat.le_succ k)) _)
        have HKK := Lib.hid hkk
        clear hkk
        by_cases hv : 0 < v0
        · cases hc : canX L (fun _ => 0) k
          · have hf : fpHit L a b k = false := by simp [fpHit, hc]
            have HF := Lib.hid hf
            have C : Calls Try.prog 81 #[.pointer (some ⟨p, 0, none⟩), .agg #[.int .i64 0, .int .i64 0, .int .i64 0], .int .i64 (k : Int)] v (Quietly v (.bool false)) := can_c hok hok.at0 hlt p gm false hc v (HP4.out.keep hcs.2)
            clear hf
            go_wp2_with fail
            refine C.mono ?_
            rintro e v2 ⟨rfl, b4⟩
            clear C x0 x1 x2
            have hcs2 := hcs.trans (.of_below b4)
            have HB2 := bUp HB b4 HB.size
            have hmo2 := HMO.out.kept (grown_of_below b4 none) (by simp)
            clear b4
            go_wp2_with fail
            go_roundw
            case rel => exact ⟨k + 1, N, by omega, by go_num, HKK.out, hcs2, HB2, hmo2, NEXT.out HF.out⟩
            case measure => simp [intOf] <;> omega
          · have C : Calls Try.prog 81 #[.pointer (some ⟨p, 0, none⟩), .agg #[.int .i64 0, .int .i64 0, .int .i64 0], .int .i64 (k : Int)] v (Quietly v (.bool true)) := can_c hok hok.at0 hlt p gm true hc v (HP4.out.keep hcs.2)
            go_wp2_with fail
            refine C.mono ?_
            rintro e v2 ⟨rfl, b4⟩
            clear C x0 x1 x2
            have hcs2 := hcs.trans (.of_below b4)
            have HB2 := bUp HB b4 HB.size
            have hmo2 := HMO.out.kept (grown_of_below b4 none) (by simp)
            have hN2 : N + 9 * 28 ^ 8 ≤ 28 ^ 9 + (k + 1) * (9 * 28 ^ 8) := by
              have := HN.out
              rw [Nat.succ_mul]
              omega
            have hN3 : N + 9 * 28 ^ (7 + 1) ≤ 4611686018427387904 := by
              have h1 : (k + 1) * (9 * 28 ^ 8) ≤ 3 * (9 * 28 ^ 8) := Nat.mul_le_mul_right _ (by omega)
              have := E28.out
              show N + 9 * 28 ^ 8 ≤ _
              omega
            have C : Calls Try.prog 82 #[.pointer (some ⟨p, 0, none⟩), .agg #[.int .i64 0, .int .i64 0, .int .i64 0], .int .i64 (k : Int)] v2 _ := play_c hok (plNone L) (valC_none hok p gm 7) (fun _ => 0) v2 N k hok.at3 (hok.rem8 hok.at0) hlt (HP4.out.keep hcs2.2) hmo2 hN3
            have HN2 := Lib.hid hN2
            have HMO2 := Lib.hid hmo2
            have x0 := hcs2.cell HX.out.1
            have x1 := hcs2.cell HX.out.2.1
            have x2 := hcs2.cell HX.out.2.2.1
            clear b4 hN2 hN3 hmo2 hcs HB HMO
            go_wp2_with fail
            refine C.mono ?_
            rintro e v3 ⟨rfl, hm6, hg6⟩
            clear C x0 x1 x2
            have hcs3 := hcs2.trans ⟨hg6.size, memo_same HMO2.out hm6 hg6⟩
            have HB3 := HB2.grown hg6 HB2.size fun k hk => by injection hk with hk; omega
            have HM6 := Lib.hid hm6
            clear hcs2 HB2 HMO2 hg6 hm6
            by_cases he : aft L a b (valX L a b none) (fun _ => 0) k = v0
            · have hf : fpHit L a b k = true := by simp [fpHit, hc, he, HV0.out, hv]
              have HR := Lib.hid (fpI_hit hlt hf HALL.out)
              clear hf hc
              go_wp2_with fail
              go_ret2
              exact ⟨by rw [HR.out] <;> rfl, HB3⟩
            · have hf : fpHit L a b k = false := by simp [fpHit, he, HV0.out]
              have HF := Lib.hid hf
              clear hf hc
              go_wp2_with fail
              go_roundw
              case rel => exact ⟨k + 1, _, by omega, by go_num, HN2.out, hcs3, HB3, HM6.out, NEXT.out HF.out⟩
              case measure => simp [intOf] <;> omega
        · have hf : fpHit L a b k = false := by simp [fpHit, HV0.out, hv]
          have HF := Lib.hid hf
          clear hf
          go_wp2_with fail
          go_roundw
          case rel => exact ⟨k + 1, N, by omega, by go_num, HKK.out, hcs, HB, HMO.out, NEXT.out HF.out⟩
          case measure => simp [intOf] <;> omega
      · obtain rfl : k = L.length := by omega
        have HR := Lib.hid (fpI_none (L := L) (a := a) (b := b) HALL.out)
        go_wp2_with fail
        go_ret2
        exact ⟨by rw [HR.out] <;> rfl, HB⟩

theorem atL_zero (n : Nat) : atL n (fun _ => 0) = List.replicate n 0 := by
  apply List.ext_getElem
  · simp [atL]
  · intro k h1 h2
    simp [atL]
set_option maxRecDepth 20000 in
set_option maxHeartbeats 4000000 in
theorem specFp_c (A : Option Addr) (L : List Mkd) (c : Nat) (a b : Int) (w : World) (h : RdMs w A L) (hs : SzMs L) :
    Calls Try.prog 26 #[.slice A L.length c, .int .i64 a, .int .i64 b] w (Quietly w (.tuple #[.int .i64 (fpV L a b), .bool (armsB L a b)])) := by
  cases hq : armsB L a b
  · rw [fpV_no hq]
    go_enter Try.func26, Try.ntmps26
    go_wp2_with fail
    refine (l8Arms_is A L c a b _ hq _ h hs).mono ?_
    rintro e w2 ⟨rfl, b2⟩
    go_wp2
    go_ret2
    exact ⟨rfl, b2⟩
  · rw [fpV_yes hq]
    have hok := armsB_iff.1 hq
    have hn3 := hok.n3
    go_enter Try.func26, Try.ntmps26
    go_wp2_with fail
    refine (l8Arms_is A L c a b _ hq _ h hs).mono ?_
    rintro e w2 ⟨rfl, b2⟩
    go_wp2_with fail
    refine (l8StartI_c (way := 0) (by decide) hok A c _ (h.below b2 (Nat.le_refl _)) hs).mono ?_
    rintro e w3 ⟨AU, cU, AN, cN, rfl, hU, hN, b3⟩
    have HB3 := bUp b2 b3 b2.size
    have x5 := Bx5.new w3 (.slice A L.length c) (.slice AU L.length cU) (.slice AN L.length cN) (.int .i64 a) (.int .i64 b) 101
    have bl : Below w3.heap.size w3 (w3.alloc (.cells #[.slice A L.length c, .slice AU L.length cU, .slice AN L.length cN, .int .i64 a, .int .i64 b] 101)) := (Below.refl _ _).alloc (Nat.le_refl _) _
    have hU4 := hU.below bl (Nat.le_refl _)
    have HB4 := bUp HB3 bl HB3.size
    have hz4 : w3.heap.size < (w3.alloc (.cells #[.slice A L.length c, .slice AU L.length cU, .slice AN L.length cN, .int .i64 a, .int .i64 b] 101)).heap.size := by simp
    have h4 := h.below HB4 (Nat.le_refl _)
    unfold gmV
    go_upto_region 4 with fail
    generalize w3.alloc (.cells #[.slice A L.length c, .slice AU L.length cU, .slice AN L.length cN, .int .i64 a, .int .i64 b] 101) = w4 at *
    clear bl hU hN b3 HB3 h b2
    obtain ⟨f0, f1, f2, f3, f4⟩ := id x5
    go_cut [9, 10] (fun s9 s10 wr => ∃ vals AV cv AT, s9 = .slice AV (szN L L.length) cv ∧ s10 = .slice AT L.length L.length ∧ vals.length = szN L L.length ∧ Own wr w4.heap.size AV cv vals ∧ Own wr w4.heap.size AT L.length (List.replicate L.length 0) ∧ Below w4.heap.size w4 wr ∧ ∀ X, AtOk L X → (∀ k, L.length ≤ k → X k = 0) → nth vals (encN L X L.length) = valX L a b none X)
    case first =>
      have hd1 : Below w4.heap.size w4 w4.drew := Below.drew (Below.refl _ _)
      have SK1 : Hid (∀ w', Below w4.heap.size w4 w' → w'.cell? ⟨w3.heap.size, 0, none⟩ = some (.slice A L.length c) ∧ w'.cell? ⟨w3.heap.size, 1, none⟩ = some (.slice AU L.length cU) ∧ w'.cell? ⟨w3.heap.size, 2, none⟩ = some (.slice AN L.length cN) ∧ w'.cell? ⟨w3.heap.size, 3, none⟩ = some (.int .i64 a) ∧ w'.cell? ⟨w3.heap.size, 4, none⟩ = some (.int .i64 b)) := Lib.hid fun w' HV => ⟨(HV.cell (cell_lt f0)).trans f0, (HV.cell (cell_lt f1)).trans f1, (HV.cell (cell_lt f2)).trans f2, (HV.cell (cell_lt f3)).trans f3, (HV.cell (cell_lt f4)).trans f4⟩
      clear f0 f1 f2 f3 f4
      have hS1_0 := SK1.out _ hd1
      refine tamed_region (S := fun w' => w'.cell? ⟨w3.heap.size, 0, none⟩ = some (.slice A L.length c) ∧ w'.cell? ⟨w3.heap.size, 1, none⟩ = some (.slice AU L.length cU) ∧ w'.cell? ⟨w3.heap.size, 2, none⟩ = some (.slice AN L.length cN) ∧ w'.cell? ⟨w3.heap.size, 3, none⟩ = some (.int .i64 a) ∧ w'.cell? ⟨w3.heap.size, 4, none⟩ = some (.int .i64 b)) (fun _ => false) (by kernel_rfl) ?_
      refine tame (k := 0) ?_ rfl (by kernel_rfl) (by kernel_rfl) (by kernel_rfl) (by kernel_rfl) (fun _ _ _ h => h) (by kernel_rfl) hS1_0 (fun v hv => ?_) ?_
      rotate_left
      · (obtain ⟨k1, k2, k3, k4, k5⟩ := hv; go_simp; all_goals rfl)
      simp only [Act.put, List.setIfInBounds_toArray]
      refine tame0 (k := 2) ?_ rfl (by kernel_rfl) (by kernel_rfl) (by kernel_rfl) (fun _ _ _ h => h) (by kernel_rfl) (fun v => ?_) ?_
      rotate_left
      · (go_simp; all_goals rfl)
      simp only [Act.put]
      refine tame0 (k := 3) ?_ rfl (by kernel_rfl) (by kernel_rfl) (by kernel_rfl) (fun _ _ _ h => h) (by kernel_rfl) (fun v => ?_) ?_
      rotate_left
      · (go_simp; all_goals rfl)
      simp only [Act.put]
      clear hS1_0
      refine tame_two (i := 1) (j := 4) (by kernel_rfl) rfl rfl (by kernel_rfl) (by kernel_rfl) ?_ ?_
      · go_simp
        have C := l8Values_c hok A c AU cU AN cN w4.drew (h4.below hd1 (Nat.le_refl _)) (valuC_best hok A c AU cU AN cN w4.drew (h4.below hd1 (Nat.le_refl _)) (hU4.below hd1 (Nat.le_refl _)))
        unfold gmV at C
        refine C.mono ?_
        rintro e v1 ⟨vals, AV, cv, rfl, hvl, ov, b1, hvs⟩
        clear C
        have B1 : Below w4.heap.size w4 v1 := ⟨b1.os, b1.tape, b1.output, b1.size, b1.block⟩
        have ov1 := ov.mono (show w4.heap.size ≤ w4.drew.heap.size from Nat.le_refl _)
        refine ⟨SK1.out v1 B1, ?_⟩
        refine tame0 (k := 5) ?_ rfl (by kernel_rfl) (by kernel_rfl) (by kernel_rfl) (fun _ _ _ h => h) (by kernel_rfl) (fun v => ?_) ?_
        rotate_left
        · (go_simp; all_goals rfl)
        simp only [Act.put]
        refine tame_one (k := 4) (by kernel_rfl) rfl (by kernel_rfl) ?_
        refine op_makes _ (.tmp 24) (.tmp 24) rfl .i64 .i64 _ _ L.length rfl rfl rfl rfl (by omega) ?_
        intro v2 o2 b2
        have B2 := bUp B1 b2 B1.size
        have ov2 := ov1.below b2
        refine ⟨fun _ => SK1.out v2 B2, ?_⟩
        simp only [Act.put]
        refine tame_one (k := 6) (by kernel_rfl) rfl (by kernel_rfl) ?_
        go_simp
        refine ⟨SK1.out v2 B2, ?_⟩
        refine tame_end (by kernel_rfl) ?_
        go_wp2_with fail
        go_meet
        exact ⟨vals, AV, cv, _, rfl, rfl, hvl, ov2, o2.mono B1.size, B2, hvs⟩
      · refine op_makes _ (.tmp 24) (.tmp 24) rfl .i64 .i64 _ _ L.length rfl rfl rfl rfl (by omega) ?_
        intro v2 o2 b2
        have B2 : Below w4.heap.size w4 v2 := ⟨b2.os, b2.tape, b2.output, b2.size, b2.block⟩
        have o3 := o2.mono (show w4.heap.size ≤ w4.drew.heap.size from Nat.le_refl _)
        refine ⟨fun _ => SK1.out v2 B2, ?_⟩
        simp only [Act.put]
        refine tame_one (k := 1) (by kernel_rfl) rfl (by kernel_rfl) ?_
        go_simp
        have C := l8Values_c hok A c AU cU AN cN v2 (h4.below B2 (Nat.le_refl _)) (valuC_best hok A c AU cU AN cN v2 (h4.below B2 (Nat.le_refl _)) (hU4.below B2 (Nat.le_refl _)))
        unfold gmV at C
        refine C.mono ?_
        rintro e v1 ⟨vals, AV, cv, rfl, hvl, ov, b1, hvs⟩
        clear C
        have B3 := bUp B2 b1 B2.size
        have o4 := o3.below b1
        have ov1 := ov.mono B2.size
        refine ⟨SK1.out v1 B3, ?_⟩
        refine tame0 (k := 5) ?_ rfl (by kernel_rfl) (by kernel_rfl) (by kernel_rfl) (fun _ _ _ h => h) (by kernel_rfl) (fun v => ?_) ?_
        rotate_left
        · (go_simp; all_goals rfl)
        simp only [Act.put]
        refine tame_one (k := 6) (by kernel_rfl) rfl (by kernel_rfl) ?_
        go_simp
        refine ⟨SK1.out v1 B3, ?_⟩
        refine tame_end (by kernel_rfl) ?_
        go_wp2_with fail
        go_meet
        exact ⟨vals, AV, cv, _, rfl, rfl, hvl, ov1, o4, B3, hvs⟩
    case rest =>
      obtain ⟨vals, AV, cv, AT, rfl, rfl, hvl, ov, oa, HB, hvs⟩ := hcut
      have h0 := hvs (fun _ => 0) hok.at0 fun _ _ => rfl
      rw [encN_zero] at h0
      have hvk : ∀ i y, i < L.length → y < (mAt L i).P.length → nth vals (encN L (updX (fun _ => 0) i y) L.length) = valX L a b none (updX (fun _ => 0) i y) := fun i y hi hy =>
        hvs _ (hok.upd hok.at0 hi hy) fun k hk => by rw [updX_ne _ _ (by omega)]
      have HVK := Lib.hid hvk
      have HVL := Lib.hid hvl
      have hsz := hok.sz729 (Nat.le_refl L.length)
      obtain ⟨gv, rfl, _, _⟩ := ov.form (by rw [hvl]; omega)
      generalize hv0 : valX L a b none (fun _ => 0) = v0 at *
      have HV0 := Lib.hid hv0
      have H0 := Lib.hid h0
      have X5 := Lib.hid x5
      have hnsz := hs.1
      clear hvs hvk hvl hv0 h0 x5 f0 f1 f2 f3 f4
      generalize hnv : szN L L.length = nv at *
      have HNV := Lib.hid hnv
      clear hnv
      go_wp2_with fail
      go_loopw [11] (fun i wr => ∃ k : Nat, k ≤ L.length ∧ i = .int .i64 (k : Int) ∧ Own wr w4.heap.size (some ⟨gv, 0, none⟩) cv vals ∧ Own wr w4.heap.size AT L.length (List.replicate L.length 0) ∧ Below w4.heap.size w4 wr ∧ ∀ j, j < k → fpHit L a b j = false) (fun i _ => L.length - (intOf i).toNat)
      case atStart => exact ⟨0, by omega, rfl, ov, oa, HB, fun j hj => by omega⟩
      case round =>
        clear ov oa HB
        obtain ⟨v, rfl⟩ : ∃ v : World, v = wr := ⟨_, rfl⟩
        obtain ⟨k, hk, rfl, ov, oa, HB, hall⟩ := hrel
        have HALL := Lib.hid hall
        clear hall
        have hcv := ov.cellN (k := 0) (by rw [HVL.out]; omega)
        rw [H0.out] at hcv
        have HBW := bUp HB4 HB HB4.size
        by_cases hlt : k < L.length
        · by_cases hv : 0 < v0
          · obtain ⟨ad, A1, c1, A2, c2, A3, c3, rfl, p1, p2, p3, t1, t2, t3⟩ := (h4.below HB (Nat.le_refl _)) k hlt
            have p2' := cellOff 1 (by omega) p2
            have hwl := (hok.arm hlt).tree.len
            have hn1 := (hok.arm hlt).tree.n1
            obtain ⟨aw, rfl, qw⟩ := t2.intN (k := 0) (by omega)
            rw [hwl] at p2'
            have qw' : v.cell? aw = some (.int .i64 (nth (mAt L k).W 0)) := by
              have e0 : aw.add 0 = aw := by simp [Addr.add]
              rw [e0] at qw
              exact qw
            have hn0 : 0 < (mAt L k).P.length := hn1
            have hnv0 : 0 < nv := by omega
            clear p1 p2 p3 t1 t2 t3 hwl qw
            cases hc : canX L (fun _ => 0) k
            · have hf : fpHit L a b k = false := by simp [fpHit, hc]
              have HF := Lib.hid hf
              have e1 : (nth (mAt L k).W 0 == 0) = false := can_w hok hok.at0 hlt hc
              clear hf hc
              go_upto_region 8 with fail
              have hd2 : Below v.heap.size v v.drew := Below.drew (Below.refl _ _)
              have SK2 : Hid (∀ w', Below v.heap.size v w' → w'.cell? ⟨(ad.add (k * 3)).block, (ad.add (k * 3)).off + 1, none⟩ = some (.slice (some aw) (mAt L k).P.length c2) ∧ w'.cell? aw = some (.int .i64 (nth (mAt L k).W 0))) := Lib.hid fun w' HV => ⟨(HV.cell (cell_lt p2')).trans p2', (HV.cell (cell_lt qw')).trans qw'⟩
              clear p2' qw'
              have hS2_0 := SK2.out _ hd2
              refine tamed_region (S := fun w' => w'.cell? ⟨(ad.add (k * 3)).block, (ad.add (k * 3)).off + 1, none⟩ = some (.slice (some aw) (mAt L k).P.length c2) ∧ w'.cell? aw = some (.int .i64 (nth (mAt L k).W 0))) (fun _ => false) (by kernel_rfl) ?_
              refine tame0 (k := 0) ?_ rfl (by kernel_rfl) (by kernel_rfl) (by kernel_rfl) (fun _ _ _ h => h) (by kernel_rfl) (fun v => ?_) ?_
              rotate_left
              · (go_simp; all_goals rfl)
              simp only [Act.put, List.setIfInBounds_toArray]
              refine tame0 (k := 1) ?_ rfl (by kernel_rfl) (by kernel_rfl) (by kernel_rfl) (fun _ _ _ h => h) (by kernel_rfl) (fun v => ?_) ?_
              rotate_left
              · (go_simp; all_goals rfl)
              simp only [Act.put]
              refine tame0 (k := 2) ?_ rfl (by kernel_rfl) (by kernel_rfl) (by kernel_rfl) (fun _ _ _ h => h) (by kernel_rfl) (fun v => ?_) ?_
              rotate_left
              · (go_simp; all_goals rfl)
              simp only [Act.put]
              refine tame0 (k := 3) ?_ rfl (by kernel_rfl) (by kernel_rfl) (by kernel_rfl) (fun _ _ _ h => h) (by kernel_rfl) (fun v => ?_) ?_
              rotate_left
              · (go_simp; all_goals rfl)
              simp only [Act.put]
              refine tame0 (k := 4) ?_ rfl (by kernel_rfl) (by kernel_rfl) (by kernel_rfl) (fun _ _ _ h => h) (by kernel_rfl) (fun v => ?_) ?_
              rotate_left
              · (go_simp; all_goals rfl)
              simp only [Act.put]
              refine tame (k := 5) ?_ rfl (by kernel_rfl) (by kernel_rfl) (by kernel_rfl) (by kernel_rfl) (fun _ _ _ h => h) (by kernel_rfl) hS2_0 (fun v hv => ?_) ?_
              rotate_left
              · (obtain ⟨k1, k2⟩ := hv; go_simp; all_goals rfl)
              simp only [Act.put]
              refine tame0 (k := 6) ?_ rfl (by kernel_rfl) (by kernel_rfl) (by kernel_rfl) (fun _ _ _ h => h) (by kernel_rfl) (fun v => ?_) ?_
              rotate_left
              · (go_simp; all_goals rfl)
              simp only [Act.put]
              refine tame (k := 7) ?_ rfl (by kernel_rfl) (by kernel_rfl) (by kernel_rfl) (by kernel_rfl) (fun _ _ _ h => h) (by kernel_rfl) hS2_0 (fun v hv => ?_) ?_
              rotate_left
              · (obtain ⟨k1, k2⟩ := hv; go_simp; all_goals rfl)
              simp only [Act.put]
              refine tame0 (k := 8) ?_ rfl (by kernel_rfl) (by kernel_rfl) (by kernel_rfl) (fun _ _ _ h => h) (by kernel_rfl) (fun v => ?_) ?_
              rotate_left
              · (go_simp; all_goals rfl)
              simp only [Act.put]
              refine tame0 (k := 9) ?_ rfl (by kernel_rfl) (by kernel_rfl) (by kernel_rfl) (fun _ _ _ h => h) (by kernel_rfl) (fun v => ?_) ?_
              rotate_left
              · (go_simp; all_goals rfl)
              simp only [Act.put]
              refine tame_no (k := 10) rfl (by kernel_rfl) (by kernel_rfl) (by kernel_rfl) (fun _ _ _ h => h) (by kernel_rfl) ?_
              simp only [Act.put]
              refine tame_no (k := 11) rfl (by kernel_rfl) (by kernel_rfl) (by kernel_rfl) (fun _ _ _ h => h) (by kernel_rfl) ?_
              simp only [Act.put]
              refine tame_no (k := 12) rfl (by kernel_rfl) (by kernel_rfl) (by kernel_rfl) (fun _ _ _ h => h) (by kernel_rfl) ?_
              simp only [Act.put]
              refine tame_no (k := 13) rfl (by kernel_rfl) (by kernel_rfl) (by kernel_rfl) (fun _ _ _ h => h) (by kernel_rfl) ?_
              simp only [Act.put]
              refine tame_no (k := 14) rfl (by kernel_rfl) (by kernel_rfl) (by kernel_rfl) (fun _ _ _ h => h) (by kernel_rfl) ?_
              simp only [Act.put]
              refine tame_no (k := 15) rfl (by kernel_rfl) (by kernel_rfl) (by kernel_rfl) (fun _ _ _ h => h) (by kernel_rfl) ?_
              simp only [Act.put]
              refine tame_no (k := 16) rfl (by kernel_rfl) (by kernel_rfl) (by kernel_rfl) (fun _ _ _ h => h) (by kernel_rfl) ?_
              simp only [Act.put]
              refine tame_no (k := 17) rfl (by kernel_rfl) (by kernel_rfl) (by kernel_rfl) (fun _ _ _ h => h) (by kernel_rfl) ?_
              simp only [Act.put]
              refine tame_no (k := 18) rfl (by kernel_rfl) (by kernel_rfl) (by kernel_rfl) (fun _ _ _ h => h) (by kernel_rfl) ?_
              simp only [Act.put]
              have hS2_0v := Lib.hid hS2_0
              clear hS2_0
              refine tame_one (k := 19) (by kernel_rfl) rfl (by kernel_rfl) ?_
              go_simp
              refine ⟨by first | exact hS2_0v | exact Hid.out hS2_0v, ?_⟩
              refine tame_end (by kernel_rfl) ?_
              have HB9 : Below w4.heap.size w4 v.drew := Below.drew HB
              have ov9 : Own v.drew w4.heap.size (some ⟨gv, 0, none⟩) cv vals := ov.drew
              have oa9 : Own v.drew w4.heap.size AT L.length (List.replicate L.length 0) := oa.drew
              clear hcv
              generalize v.drew = v9 at *
              go_wp2_with fail
              go_roundw
              case rel => exact ⟨k + 1, by omega, by go_num, ov9, oa9, HB9, fun j hj => by
                rcases Nat.lt_or_ge j k with h' | h'
                · exact HALL.out j h'
                · obtain rfl : j = k := by omega
                  exact HF.out⟩
              case measure => simp [intOf] <;> omega
            · have e1 : (nth (mAt L k).W 0 == 0) = true := can_w hok hok.at0 hlt hc
              have f0 := (HB.cell (p := ⟨w3.heap.size, 0, none⟩) hz4).trans X5.out.c0
              have f1 := (HB.cell (p := ⟨w3.heap.size, 1, none⟩) hz4).trans X5.out.c1
              have f2 := (HB.cell (p := ⟨w3.heap.size, 2, none⟩) hz4).trans X5.out.c2
              have f3 := (HB.cell (p := ⟨w3.heap.size, 3, none⟩) hz4).trans X5.out.c3
              have f4 := (HB.cell (p := ⟨w3.heap.size, 4, none⟩) hz4).trans X5.out.c4
              have C := l8After_c hok (plNone L) hok.at0 hlt (some ad) c AU cU AN cN (some ⟨gv, 0, none⟩) cv vals AT L.length v.drew ((h4.below HB (Nat.le_refl _)).drewN 1) ((hU4.below HB (Nat.le_refl _)).drewN 1) ov.rd.drew (by rw [HNV.out]; exact HVL.out) (by rw [atL_zero]; exact oa.rd.drew) (fun y h1 _ => HVK.out k y hlt h1)
              rw [HNV.out] at C
              unfold gmV at C
              have HC := Lib.hid hc
              clear hc
              generalize haf : aft L a b (valX L a b none) (fun _ => 0) k = af at *
              have HAF := Lib.hid haf
              clear haf
              by_cases he : af = v0
              · have hf : fpHit L a b k = true := by simp [fpHit, HC.out, HAF.out, HV0.out, he, hv]
                have HR := Lib.hid (fpI_hit hlt hf HALL.out)
                clear hf
                go_upto_region 8 with fail
                have hd3 : Below v.heap.size v v.drew := Below.drew (Below.refl _ _)
                have SK3 : Hid (∀ w', Below v.heap.size v w' → w'.cell? ⟨(ad.add (k * 3)).block, (ad.add (k * 3)).off + 1, none⟩ = some (.slice (some aw) (mAt L k).P.length c2) ∧ w'.cell? aw = some (.int .i64 (nth (mAt L k).W 0)) ∧ w'.cell? ⟨w3.heap.size, 0, none⟩ = some (.slice (some ad) L.length c) ∧ w'.cell? ⟨w3.heap.size, 1, none⟩ = some (.slice AU L.length cU) ∧ w'.cell? ⟨w3.heap.size, 2, none⟩ = some (.slice AN L.length cN) ∧ w'.cell? ⟨w3.heap.size, 3, none⟩ = some (.int .i64 a) ∧ w'.cell? ⟨w3.heap.size, 4, none⟩ = some (.int .i64 b) ∧ w'.cell? ⟨gv, 0, none⟩ = some (.int .i64 v0)) := Lib.hid fun w' HV => ⟨(HV.cell (cell_lt p2')).trans p2', (HV.cell (cell_lt qw')).trans qw', (HV.cell (cell_lt f0)).trans f0, (HV.cell (cell_lt f1)).trans f1, (HV.cell (cell_lt f2)).trans f2, (HV.cell (cell_lt f3)).trans f3, (HV.cell (cell_lt f4)).trans f4, (HV.cell (cell_lt hcv)).trans hcv⟩
                clear p2' qw' f0 f1 f2 f3 f4
                have hS3_0 := SK3.out _ hd3
                refine tamed_region (S := fun w' => w'.cell? ⟨(ad.add (k * 3)).block, (ad.add (k * 3)).off + 1, none⟩ = some (.slice (some aw) (mAt L k).P.length c2) ∧ w'.cell? aw = some (.int .i64 (nth (mAt L k).W 0)) ∧ w'.cell? ⟨w3.heap.size, 0, none⟩ = some (.slice (some ad) L.length c) ∧ w'.cell? ⟨w3.heap.size, 1, none⟩ = some (.slice AU L.length cU) ∧ w'.cell? ⟨w3.heap.size, 2, none⟩ = some (.slice AN L.length cN) ∧ w'.cell? ⟨w3.heap.size, 3, none⟩ = some (.int .i64 a) ∧ w'.cell? ⟨w3.heap.size, 4, none⟩ = some (.int .i64 b) ∧ w'.cell? ⟨gv, 0, none⟩ = some (.int .i64 v0)) (fun _ => false) (by kernel_rfl) ?_
                refine tame0 (k := 0) ?_ rfl (by kernel_rfl) (by kernel_rfl) (by kernel_rfl) (fun _ _ _ h => h) (by kernel_rfl) (fun v => ?_) ?_
                rotate_left
                · (go_simp; all_goals rfl)
                simp only [Act.put, List.setIfInBounds_toArray]
                refine tame0 (k := 1) ?_ rfl (by kernel_rfl) (by kernel_rfl) (by kernel_rfl) (fun _ _ _ h => h) (by kernel_rfl) (fun v => ?_) ?_
                rotate_left
                · (go_simp; all_goals rfl)
                simp only [Act.put]
                refine tame0 (k := 2) ?_ rfl (by kernel_rfl) (by kernel_rfl) (by kernel_rfl) (fun _ _ _ h => h) (by kernel_rfl) (fun v => ?_) ?_
                rotate_left
                · (go_simp; all_goals rfl)
                simp only [Act.put]
                refine tame0 (k := 3) ?_ rfl (by kernel_rfl) (by kernel_rfl) (by kernel_rfl) (fun _ _ _ h => h) (by kernel_rfl) (fun v => ?_) ?_
                rotate_left
                · (go_simp; all_goals rfl)
                simp only [Act.put]
                refine tame0 (k := 4) ?_ rfl (by kernel_rfl) (by kernel_rfl) (by kernel_rfl) (fun _ _ _ h => h) (by kernel_rfl) (fun v => ?_) ?_
                rotate_left
                · (go_simp; all_goals rfl)
                simp only [Act.put]
                refine tame (k := 5) ?_ rfl (by kernel_rfl) (by kernel_rfl) (by kernel_rfl) (by kernel_rfl) (fun _ _ _ h => h) (by kernel_rfl) hS3_0 (fun v hv => ?_) ?_
                rotate_left
                · (obtain ⟨k1, k2, k3, k4, k5, k6, k7, k8⟩ := hv; go_simp; all_goals rfl)
                simp only [Act.put]
                refine tame0 (k := 6) ?_ rfl (by kernel_rfl) (by kernel_rfl) (by kernel_rfl) (fun _ _ _ h => h) (by kernel_rfl) (fun v => ?_) ?_
                rotate_left
                · (go_simp; all_goals rfl)
                simp only [Act.put]
                refine tame (k := 7) ?_ rfl (by kernel_rfl) (by kernel_rfl) (by kernel_rfl) (by kernel_rfl) (fun _ _ _ h => h) (by kernel_rfl) hS3_0 (fun v hv => ?_) ?_
                rotate_left
                · (obtain ⟨k1, k2, k3, k4, k5, k6, k7, k8⟩ := hv; go_simp; all_goals rfl)
                simp only [Act.put]
                refine tame0 (k := 8) ?_ rfl (by kernel_rfl) (by kernel_rfl) (by kernel_rfl) (fun _ _ _ h => h) (by kernel_rfl) (fun v => ?_) ?_
                rotate_left
                · (go_simp; all_goals rfl)
                simp only [Act.put]
                refine tame0 (k := 9) ?_ rfl (by kernel_rfl) (by kernel_rfl) (by kernel_rfl) (fun _ _ _ h => h) (by kernel_rfl) (fun v => ?_) ?_
                rotate_left
                · (go_simp; all_goals rfl)
                simp only [Act.put]
                refine tame (k := 10) ?_ rfl (by kernel_rfl) (by kernel_rfl) (by kernel_rfl) (by kernel_rfl) (fun _ _ _ h => h) (by kernel_rfl) hS3_0 (fun v hv => ?_) ?_
                rotate_left
                · (obtain ⟨k1, k2, k3, k4, k5, k6, k7, k8⟩ := hv; go_simp; all_goals rfl)
                simp only [Act.put]
                refine tame0 (k := 11) ?_ rfl (by kernel_rfl) (by kernel_rfl) (by kernel_rfl) (fun _ _ _ h => h) (by kernel_rfl) (fun v => ?_) ?_
                rotate_left
                · (go_simp; all_goals rfl)
                simp only [Act.put]
                refine tame0 (k := 12) ?_ rfl (by kernel_rfl) (by kernel_rfl) (by kernel_rfl) (fun _ _ _ h => h) (by kernel_rfl) (fun v => ?_) ?_
                rotate_left
                · (go_simp; all_goals rfl)
                simp only [Act.put]
                refine tame0 (k := 13) ?_ rfl (by kernel_rfl) (by kernel_rfl) (by kernel_rfl) (fun _ _ _ h => h) (by kernel_rfl) (fun v => ?_) ?_
                rotate_left
                · (go_simp; all_goals rfl)
                simp only [Act.put]
                refine tame0 (k := 15) ?_ rfl (by kernel_rfl) (by kernel_rfl) (by kernel_rfl) (fun _ _ _ h => h) (by kernel_rfl) (fun v => ?_) ?_
                rotate_left
                · (go_simp; all_goals rfl)
                simp only [Act.put]
                refine tame0 (k := 16) ?_ rfl (by kernel_rfl) (by kernel_rfl) (by kernel_rfl) (fun _ _ _ h => h) (by kernel_rfl) (fun v => ?_) ?_
                rotate_left
                · (go_simp; all_goals rfl)
                simp only [Act.put]
                refine tame (k := 17) ?_ rfl (by kernel_rfl) (by kernel_rfl) (by kernel_rfl) (by kernel_rfl) (fun _ _ _ h => h) (by kernel_rfl) hS3_0 (fun v hv => ?_) ?_
                rotate_left
                · (obtain ⟨k1, k2, k3, k4, k5, k6, k7, k8⟩ := hv; go_simp; all_goals rfl)
                simp only [Act.put]
                refine tame_one (k := 14) (by kernel_rfl) rfl (by kernel_rfl) ?_
                go_simp
                refine (C).mono ?_
                rintro e v3 ⟨rfl, b3⟩
                have hd3_1 := bUp hd3 b3 (Nat.le_refl _)
                have hS3_1 := Lib.hid (SK3.out _ hd3_1)
                refine ⟨by first | exact hS3_1 | exact Hid.out hS3_1, ?_⟩
                refine tame0 (k := 18) ?_ rfl (by kernel_rfl) (by kernel_rfl) (by kernel_rfl) (fun _ _ _ h => h) (by kernel_rfl) (fun v => ?_) ?_
                rotate_left
                · (go_simp; all_goals rfl)
                simp only [Act.put]
                refine tame_one (k := 19) (by kernel_rfl) rfl (by kernel_rfl) ?_
                go_simp
                refine ⟨by first | exact hS3_1 | exact Hid.out hS3_1, ?_⟩
                refine tame_end (by kernel_rfl) ?_
                have HB9 := bUp HBW hd3_1 HBW.size
                go_wp2_with fail
                go_ret2
                exact ⟨by rw [HR.out] <;> rfl, HB9⟩
              · have hf : fpHit L a b k = false := by simp [fpHit, HAF.out, HV0.out, he]
                have HF := Lib.hid hf
                clear hf
                go_upto_region 8 with fail
                have hd4 : Below v.heap.size v v.drew := Below.drew (Below.refl _ _)
                have SK4 : Hid (∀ w', Below v.heap.size v w' → w'.cell? ⟨(ad.add (k * 3)).block, (ad.add (k * 3)).off + 1, none⟩ = some (.slice (some aw) (mAt L k).P.length c2) ∧ w'.cell? aw = some (.int .i64 (nth (mAt L k).W 0)) ∧ w'.cell? ⟨w3.heap.size, 0, none⟩ = some (.slice (some ad) L.length c) ∧ w'.cell? ⟨w3.heap.size, 1, none⟩ = some (.slice AU L.length cU) ∧ w'.cell? ⟨w3.heap.size, 2, none⟩ = some (.slice AN L.length cN) ∧ w'.cell? ⟨w3.heap.size, 3, none⟩ = some (.int .i64 a) ∧ w'.cell? ⟨w3.heap.size, 4, none⟩ = some (.int .i64 b) ∧ w'.cell? ⟨gv, 0, none⟩ = some (.int .i64 v0)) := Lib.hid fun w' HV => ⟨(HV.cell (cell_lt p2')).trans p2', (HV.cell (cell_lt qw')).trans qw', (HV.cell (cell_lt f0)).trans f0, (HV.cell (cell_lt f1)).trans f1, (HV.cell (cell_lt f2)).trans f2, (HV.cell (cell_lt f3)).trans f3, (HV.cell (cell_lt f4)).trans f4, (HV.cell (cell_lt hcv)).trans hcv⟩
                clear p2' qw' f0 f1 f2 f3 f4
                have hS4_0 := SK4.out _ hd4
                refine tamed_region (S := fun w' => w'.cell? ⟨(ad.add (k * 3)).block, (ad.add (k * 3)).off + 1, none⟩ = some (.slice (some aw) (mAt L k).P.length c2) ∧ w'.cell? aw = some (.int .i64 (nth (mAt L k).W 0)) ∧ w'.cell? ⟨w3.heap.size, 0, none⟩ = some (.slice (some ad) L.length c) ∧ w'.cell? ⟨w3.heap.size, 1, none⟩ = some (.slice AU L.length cU) ∧ w'.cell? ⟨w3.heap.size, 2, none⟩ = some (.slice AN L.length cN) ∧ w'.cell? ⟨w3.heap.size, 3, none⟩ = some (.int .i64 a) ∧ w'.cell? ⟨w3.heap.size, 4, none⟩ = some (.int .i64 b) ∧ w'.cell? ⟨gv, 0, none⟩ = some (.int .i64 v0)) (fun _ => false) (by kernel_rfl) ?_
                refine tame0 (k := 0) ?_ rfl (by kernel_rfl) (by kernel_rfl) (by kernel_rfl) (fun _ _ _ h => h) (by kernel_rfl) (fun v => ?_) ?_
                rotate_left
                · (go_simp; all_goals rfl)
                simp only [Act.put, List.setIfInBounds_toArray]
                refine tame0 (k := 1) ?_ rfl (by kernel_rfl) (by kernel_rfl) (by kernel_rfl) (fun _ _ _ h => h) (by kernel_rfl) (fun v => ?_) ?_
                rotate_left
                · (go_simp; all_goals rfl)
                simp only [Act.put]
                refine tame0 (k := 2) ?_ rfl (by kernel_rfl) (by kernel_rfl) (by kernel_rfl) (fun _ _ _ h => h) (by kernel_rfl) (fun v => ?_) ?_
                rotate_left
                · (go_simp; all_goals rfl)
                simp only [Act.put]
                refine tame0 (k := 3) ?_ rfl (by kernel_rfl) (by kernel_rfl) (by kernel_rfl) (fun _ _ _ h => h) (by kernel_rfl) (fun v => ?_) ?_
                rotate_left
                · (go_simp; all_goals rfl)
                simp only [Act.put]
                refine tame0 (k := 4) ?_ rfl (by kernel_rfl) (by kernel_rfl) (by kernel_rfl) (fun _ _ _ h => h) (by kernel_rfl) (fun v => ?_) ?_
                rotate_left
                · (go_simp; all_goals rfl)
                simp only [Act.put]
                refine tame (k := 5) ?_ rfl (by kernel_rfl) (by kernel_rfl) (by kernel_rfl) (by kernel_rfl) (fun _ _ _ h => h) (by kernel_rfl) hS4_0 (fun v hv => ?_) ?_
                rotate_left
                · (obtain ⟨k1, k2, k3, k4, k5, k6, k7, k8⟩ := hv; go_simp; all_goals rfl)
                simp only [Act.put]
                refine tame0 (k := 6) ?_ rfl (by kernel_rfl) (by kernel_rfl) (by kernel_rfl) (fun _ _ _ h => h) (by kernel_rfl) (fun v => ?_) ?_
                rotate_left
                · (go_simp; all_goals rfl)
                simp only [Act.put]
                refine tame (k := 7) ?_ rfl (by kernel_rfl) (by kernel_rfl) (by kernel_rfl) (by kernel_rfl) (fun _ _ _ h => h) (by kernel_rfl) hS4_0 (fun v hv => ?_) ?_
                rotate_left
                · (obtain ⟨k1, k2, k3, k4, k5, k6, k7, k8⟩ := hv; go_simp; all_goals rfl)
                simp only [Act.put]
                refine tame0 (k := 8) ?_ rfl (by kernel_rfl) (by kernel_rfl) (by kernel_rfl) (fun _ _ _ h => h) (by kernel_rfl) (fun v => ?_) ?_
                rotate_left
                · (go_simp; all_goals rfl)
                simp only [Act.put]
                refine tame0 (k := 9) ?_ rfl (by kernel_rfl) (by kernel_rfl) (by kernel_rfl) (fun _ _ _ h => h) (by kernel_rfl) (fun v => ?_) ?_
                rotate_left
                · (go_simp; all_goals rfl)
                simp only [Act.put]
                refine tame (k := 10) ?_ rfl (by kernel_rfl) (by kernel_rfl) (by kernel_rfl) (by kernel_rfl) (fun _ _ _ h => h) (by kernel_rfl) hS4_0 (fun v hv => ?_) ?_
                rotate_left
                · (obtain ⟨k1, k2, k3, k4, k5, k6, k7, k8⟩ := hv; go_simp; all_goals rfl)
                simp only [Act.put]
                refine tame0 (k := 11) ?_ rfl (by kernel_rfl) (by kernel_rfl) (by kernel_rfl) (fun _ _ _ h => h) (by kernel_rfl) (fun v => ?_) ?_
                rotate_left
                · (go_simp; all_goals rfl)
                simp only [Act.put]
                refine tame0 (k := 12) ?_ rfl (by kernel_rfl) (by kernel_rfl) (by kernel_rfl) (fun _ _ _ h => h) (by kernel_rfl) (fun v => ?_) ?_
                rotate_left
                · (go_simp; all_goals rfl)
                simp only [Act.put]
                refine tame0 (k := 13) ?_ rfl (by kernel_rfl) (by kernel_rfl) (by kernel_rfl) (fun _ _ _ h => h) (by kernel_rfl) (fun v => ?_) ?_
                rotate_left
                · (go_simp; all_goals rfl)
                simp only [Act.put]
                refine tame0 (k := 15) ?_ rfl (by kernel_rfl) (by kernel_rfl) (by kernel_rfl) (fun _ _ _ h => h) (by kernel_rfl) (fun v => ?_) ?_
                rotate_left
                · (go_simp; all_goals rfl)
                simp only [Act.put]
                refine tame0 (k := 16) ?_ rfl (by kernel_rfl) (by kernel_rfl) (by kernel_rfl) (fun _ _ _ h => h) (by kernel_rfl) (fun v => ?_) ?_
                rotate_left
                · (go_simp; all_goals rfl)
                simp only [Act.put]
                refine tame (k := 17) ?_ rfl (by kernel_rfl) (by kernel_rfl) (by kernel_rfl) (by kernel_rfl) (fun _ _ _ h => h) (by kernel_rfl) hS4_0 (fun v hv => ?_) ?_
                rotate_left
                · (obtain ⟨k1, k2, k3, k4, k5, k6, k7, k8⟩ := hv; go_simp; all_goals rfl)
                simp only [Act.put]
                refine tame_one (k := 14) (by kernel_rfl) rfl (by kernel_rfl) ?_
                go_simp
                refine (C).mono ?_
                rintro e v3 ⟨rfl, b3⟩
                have hd4_1 := bUp hd4 b3 (Nat.le_refl _)
                have hS4_1 := Lib.hid (SK4.out _ hd4_1)
                refine ⟨by first | exact hS4_1 | exact Hid.out hS4_1, ?_⟩
                refine tame0 (k := 18) ?_ rfl (by kernel_rfl) (by kernel_rfl) (by kernel_rfl) (fun _ _ _ h => h) (by kernel_rfl) (fun v => ?_) ?_
                rotate_left
                · (go_simp; all_goals rfl)
                simp only [Act.put]
                refine tame_one (k := 19) (by kernel_rfl) rfl (by kernel_rfl) ?_
                go_simp
                refine ⟨by first | exact hS4_1 | exact Hid.out hS4_1, ?_⟩
                refine tame_end (by kernel_rfl) ?_
                have HB9 : Below w4.heap.size w4 v3 := bUp HB hd4_1 HB.size
                have ov9 : Own v3 w4.heap.size (some ⟨gv, 0, none⟩) cv vals := ov.below hd4_1
                have oa9 : Own v3 w4.heap.size AT L.length (List.replicate L.length 0) := oa.below hd4_1
                clear hcv
                clear C
                go_wp2_with fail
                go_roundw
                case rel => exact ⟨k + 1, by omega, by go_num, ov9, oa9, HB9, fun j hj => by
                  rcases Nat.lt_or_ge j k with h' | h'
                  · exact HALL.out j h'
                  · obtain rfl : j = k := by omega
                    exact HF.out⟩
                case measure => simp [intOf] <;> omega

          · have hall : ∀ j, j < L.length → fpHit L a b j = false := fun j _ => by simp [fpHit, HV0.out, hv]
            have HR := Lib.hid (fpI_none (L := L) (a := a) (b := b) hall)
            clear hall
            go_wp2_with fail
            go_ret2
            exact ⟨by rw [HR.out] <;> rfl, HBW⟩
        · obtain rfl : k = L.length := by omega
          have HR := Lib.hid (fpI_none (L := L) (a := a) (b := b) HALL.out)
          go_wp2_with fail
          go_ret2
          exact ⟨by rw [HR.out] <;> rfl, HBW⟩

end Go.Proofs.Ytfobjkdkjlbkfaa
