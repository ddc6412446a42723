/- PlayGain: the reference's walk. (Written by gen_pgs.py.) -/
import Derived.Test.YtdhagkckkdaenaaPgL
import Derived.Test.YtdhagkckkdaenaaBeW
namespace Go.Proofs.Ytdhagkckkdaenaa
open Go.RowKit

theorem add_nil1 (a : Addr) : a.add 0 = a := by simp [Addr.add]
set_option maxRecDepth 20000 in
set_option maxHeartbeats 1000000 in
theorem l1Rising_c (A : Option Addr) (S : List Int) (c : Nat) (n : Int) (w : World) (hS : Rd w A (ints S)) (hl : S.length ≤ 16777216) :
    Calls Try.prog 28 #[.slice A S.length c, .int .i64 0, .int .i64 n] w (Pure w (.bool (ascT S n S.length))) := by
  go_enter Try.func28, Try.ntmps28
  go_wp2
  go_loopw [7] (fun i wr => ∃ k : Nat, k ≤ S.length ∧ i = .int .i64 (k : Int) ∧ ascT S n k = true ∧ Dr w wr) (fun i _ => S.length - (intOf i).toNat)
  case atStart => exact ⟨0, Nat.zero_le _, rfl, rfl, Dr.refl _⟩
  case round =>
    obtain ⟨k, hk, rfl, ha, hd⟩ := hrel
    obtain ⟨wo, rfl⟩ : ∃ wo : World, wo = wr := ⟨_, rfl⟩
    have HA := Lib.hid ha
    clear ha
    by_cases hlt : k < S.length
    · obtain ⟨a, rfl, hc⟩ := (hS.dr hd).intN hlt
      have j0 : (0 : Int) ≤ (k : Int) := by omega
      have j1 : (k : Int) < (S.length : Int) := by omega
      cases hi : inB (nth S k) 0 n
      · have HN : Hid (ascT S n S.length = false) := Lib.hid (ascT_no (k := k + 1) (by rw [ascT, hi]; simp) (by omega))
        have HI := Lib.hid hi
        clear hi
        go_wp2
        go_quiet ((go_at_call 44; exact qSame (l1In_is _ _ _ _ HI.out _)))
        go_wp2
        go_ret
        exact ⟨by rw [HN.out] <;> rfl, hd.drewN _⟩
      · have HI := Lib.hid hi
        rcases Nat.eq_zero_or_pos k with rfl | hk0
        · have HY : Hid (ascT S n (0 + 1) = true) := Lib.hid (by rw [ascT, HA.out, hi]; rfl)
          have hc0 := hc
          rw [add_nil1] at hc0
          clear hi
          go_wp2
          go_quiet ((go_at_call 44; exact qSame (l1In_is _ _ _ _ HI.out _)))
          go_wp2
          go_roundw
          case rel => exact ⟨1, by omega, by first | rfl | go_num, HY.out, hd.drewN _⟩
          case measure => simp [intOf] <;> omega
        · obtain ⟨a', ea, hc2⟩ := (hS.dr hd).intN (k := k - 1) (by omega)
          injection ea with ea
          subst ea
          have e1 : IntKind.i64.wrap ((k : Int) - 1) = (k : Int) - 1 := IntWalk.i64_in _ (by omega)
          have e2 : ((k : Int) - 1).toNat = k - 1 := by omega
          have e3 : (0 : Int) ≤ (k : Int) - 1 := by omega
          have e4 : (k : Int) - 1 < (S.length : Int) := by omega
          have e5 : (0 : Int) < (k : Int) := by omega
          by_cases hr : nth S (k - 1) < nth S k
          · have HY : Hid (ascT S n (k + 1) = true) := Lib.hid (by rw [ascT, HA.out, hi, decide_eq_true hr]; simp)
            have hr2 : ¬ nth S k ≤ nth S (k - 1) := by omega
            clear hi
            go_wp2
            go_quiet ((go_at_call 44; exact qSame (l1In_is _ _ _ _ HI.out _)))
            clear e1 e2
            go_wp2
            go_roundw
            case rel => exact ⟨k + 1, by omega, by go_num, HY.out, hd.drewN _⟩
            case measure => simp [intOf] <;> omega
          · have HN : Hid (ascT S n S.length = false) := Lib.hid (ascT_no (k := k + 1) (by rw [ascT, decide_eq_false hr, decide_eq_false (show ¬ k = 0 by omega)]; simp) (by omega))
            have hr2 : nth S k ≤ nth S (k - 1) := by omega
            clear hi
            go_wp2
            go_quiet ((go_at_call 44; exact qSame (l1In_is _ _ _ _ HI.out _)))
            go_wp2
            go_ret
            exact ⟨by rw [HN.out] <;> rfl, hd.drewN _⟩
    · obtain rfl : k = S.length := by omega
      go_wp2
      go_ret
      exact ⟨by rw [HA.out] <;> rfl, hd⟩
theorem l1Rising_is (A : Option Addr) (S : List Int) (c : Nat) (n : Int) (q : Bool) (hq : ascT S n S.length = q) (w : World) (hS : Rd w A (ints S)) (hl : S.length ≤ 16777216) :
    Calls Try.prog 28 #[.slice A S.length c, .int .i64 0, .int .i64 n] w (Pure w (.bool q)) := by
  rw [← hq]
  exact l1Rising_c A S c n w hS hl
theorem pgT_1 {P S : List Int} (h : S.length = 0) : pgT P S = false := by rw [pgT, decide_eq_false (by omega)]; rfl
theorem pgT_2 {P S : List Int} (h : ascT S ((P.length : Int) - 1) S.length = false) : pgT P S = false := by rw [pgT, h]; simp
theorem pgT_3 {P S : List Int} (h : nth S 0 ≠ 0) : pgT P S = false := by rw [pgT, decide_eq_false h]; simp
theorem pgT_4 {P S : List Int} (h : okT P S S.length = false) : pgT P S = false := by rw [pgT, h]; simp
set_option maxRecDepth 20000 in
set_option maxHeartbeats 2000000 in
theorem specPg_c (A1 : Option Addr) (P : List Int) (c1 : Nat) (A2 : Option Addr) (W : List Int) (c2 : Nat) (A3 : Option Addr) (F : List Int) (c3 : Nat) (a b : Int) (AS : Option Addr) (S : List Int) (cS : Nat) (w : World) (h : RdM w A1 P A2 W A3 F) (hS : Rd w AS (ints S)) (hSl : S.length ≤ 16777216) :
    Calls Try.prog 8 #[mkV A1 P.length c1 A2 W.length c2 A3 F.length c3, .int .i64 a, .int .i64 b, .slice AS S.length cS] w (Quietly w (.tuple #[.agg #[.int .i64 (pgF P W F a b S).1, .int .i64 (pgF P W F a b S).2], .agg #[.int .i64 (pgG P W F a b S).1, .int .i64 (pgG P W F a b S).2], .bool (pgB P W F a b S)])) := by
  have HB1 : Below w.heap.size w (((w.alloc (.cells #[.slice A1 P.length c1, .slice A2 W.length c2, .slice A3 F.length c3] 33)).alloc (.cells #[.int .i64 0, .int .i64 0] 28)).alloc (.cells #[.int .i64 0, .int .i64 0] 28)) := (((Below.refl _ _).alloc (Nat.le_refl _) _).alloc (by simp) _).alloc (by simp <;> omega) _
  have bx := ((Bx3.new w (.slice A1 P.length c1) (.slice A2 W.length c2) (.slice A3 F.length c3) 33).alloc (.cells #[.int .i64 0, .int .i64 0] 28)).alloc (.cells #[.int .i64 0, .int .i64 0] 28)
  have r8 := (Bx.new (w.alloc (.cells #[.slice A1 P.length c1, .slice A2 W.length c2, .slice A3 F.length c3] 33)) (.int .i64 0) (.int .i64 0) 28).alloc (.cells #[.int .i64 0, .int .i64 0] 28)
  have r9 := Bx.new ((w.alloc (.cells #[.slice A1 P.length c1, .slice A2 W.length c2, .slice A3 F.length c3] 33)).alloc (.cells #[.int .i64 0, .int .i64 0] 28)) (.int .i64 0) (.int .i64 0) 28
  simp only [World.size_alloc] at r8 r9
  have R0 := BeR.mk (w := w) (f := (0, 0)) bx r8 r9 HB1
  clear bx r8 r9
  cases hq : (armB P W F && discB a b)
  · have HQ := Lib.hid (show pgB P W F a b S = false by rw [pgB, hq]; rfl)
    rw [(pg_no HQ.out).1, (pg_no HQ.out).2, HQ.out]
    go_enter Try.func8, Try.ntmps8
    go_wp2_with fail
    generalize (((w.alloc (.cells #[.slice A1 P.length c1, .slice A2 W.length c2, .slice A3 F.length c3] 33)).alloc (.cells #[.int .i64 0, .int .i64 0] 28)).alloc (.cells #[.int .i64 0, .int .i64 0] 28)) = v at *
    refine (l8One_is _ _ _ _ _ _ _ _ _ _ _ _ hq _ (h.below HB1 (Nat.le_refl _))).mono ?_
    rintro e w2 ⟨rfl, b2⟩
    have R := R0.below b2
    obtain ⟨u0, u1, u2, u3, u4⟩ := id R.br
    obtain ⟨t0, t1, t2, t3, t4⟩ := id R.bb
    go_wp2
    exact bodyPost_ret (v := .tuple #[.agg #[.int .i64 0, .int .i64 0], .agg #[.int .i64 0, .int .i64 0], .bool false]) (by simp [results, Try.results8, go_sem, u0, u1, t0, t1]) rfl ⟨rfl, by with_reducible repeat (first | exact R.hb | refine Below.setCell ?_ (by simp <;> omega) _)⟩
  have hk := armAB_iff.1 hq
  have HPT := Lib.hid (pgB_T (S := S) hq)
  have hok := hk.arm
  have hn1 := hok.tree.n1
  have hn2 := hok.tree.n2
  have hn9 := hok.n9
  have hpar := hok.tree.par
  have HFL := Lib.hid hok.len
  have HWL := Lib.hid hok.tree.len
  by_cases h0 : S.length = 0
  · have HQ := Lib.hid (HPT.out.trans (pgT_1 h0))
    have e0 : ((S.length : Int) == 0) = true := by simp; exact List.length_eq_zero_iff.1 h0
    rw [(pg_no HQ.out).1, (pg_no HQ.out).2, HQ.out]
    clear h0
    go_enter Try.func8, Try.ntmps8
    go_wp2_with fail
    generalize (((w.alloc (.cells #[.slice A1 P.length c1, .slice A2 W.length c2, .slice A3 F.length c3] 33)).alloc (.cells #[.int .i64 0, .int .i64 0] 28)).alloc (.cells #[.int .i64 0, .int .i64 0] 28)) = v at *
    refine (l8One_is _ _ _ _ _ _ _ _ _ _ _ _ hq _ (h.below HB1 (Nat.le_refl _))).mono ?_
    rintro e w2 ⟨rfl, b2⟩
    have R := R0.below b2
    obtain ⟨u0, u1, u2, u3, u4⟩ := id R.br
    obtain ⟨t0, t1, t2, t3, t4⟩ := id R.bb
    go_wp2
    exact bodyPost_ret (v := .tuple #[.agg #[.int .i64 0, .int .i64 0], .agg #[.int .i64 0, .int .i64 0], .bool false]) (by simp [results, Try.results8, go_sem, u0, u1, t0, t1]) rfl ⟨rfl, by with_reducible repeat (first | exact R.hb | refine Below.setCell ?_ (by simp <;> omega) _)⟩
  have e0 : ((S.length : Int) == 0) = false := by simp; intro e; exact h0 (by rw [e]; rfl)
  have hS1 : 0 < S.length := by omega
  have ef : IntKind.i64.wrap ((F.length : Int) - 1) = (P.length : Int) - 1 := by rw [HFL.out]; exact IntWalk.i64_in _ (by omega)
  have hfl : (F.length : Int) - 1 = (P.length : Int) - 1 := by rw [HFL.out]
  have HFI := Lib.hid hfl
  have hF1 : 1 ≤ F.length := by rw [HFL.out]; exact hn1
  have hF9 : F.length ≤ 9 := by rw [HFL.out]; exact hn9
  clear h0 ef hfl
  have PRE : ∀ (q : Bool), ascT S ((P.length : Int) - 1) S.length = q → ∀ (Aq : Option Addr) (cq : Nat) (wq : World), Rd wq Aq (ints S) → Calls Try.prog 28 #[.slice Aq S.length cq, .int .i64 0, .int .i64 ((F.length : Int) - 1)] wq (Pure wq (.bool q)) := fun q hq' Aq cq wq hr => by
    rw [HFI.out]
    exact l1Rising_is Aq S cq _ q hq' wq hr hSl
  have HPRE := Lib.hid PRE
  clear PRE
  cases hasc : ascT S ((P.length : Int) - 1) S.length
  · have HQ := Lib.hid (HPT.out.trans (pgT_2 hasc))
    rw [(pg_no HQ.out).1, (pg_no HQ.out).2, HQ.out]
    have HAS := Lib.hid hasc
    clear hasc
    go_enter Try.func8, Try.ntmps8
    go_wp2_with fail
    generalize (((w.alloc (.cells #[.slice A1 P.length c1, .slice A2 W.length c2, .slice A3 F.length c3] 33)).alloc (.cells #[.int .i64 0, .int .i64 0] 28)).alloc (.cells #[.int .i64 0, .int .i64 0] 28)) = v at *
    refine (l8One_is _ _ _ _ _ _ _ _ _ _ _ _ hq _ (h.below HB1 (Nat.le_refl _))).mono ?_
    rintro e w2 ⟨rfl, b2⟩
    have R := R0.below b2
    obtain ⟨f0, f1, f2, fz⟩ := id R.bx
    go_wp2_with fail
    refine (HPRE.out false HAS.out AS cS _ (hS.below R.hb (Nat.le_refl _))).mono ?_
    rintro e w3 ⟨rfl, n3, rfl⟩
    have R := R.below (bDrewN (Below.refl _ _) n3)
    clear f0 f1 f2 fz
    obtain ⟨u0, u1, u2, u3, u4⟩ := id R.br
    obtain ⟨t0, t1, t2, t3, t4⟩ := id R.bb
    go_wp2
    exact bodyPost_ret (v := .tuple #[.agg #[.int .i64 0, .int .i64 0], .agg #[.int .i64 0, .int .i64 0], .bool false]) (by simp [results, Try.results8, go_sem, u0, u1, t0, t1]) rfl ⟨rfl, by with_reducible repeat (first | exact R.hb | refine Below.setCell ?_ (by simp <;> omega) _)⟩
  obtain ⟨aS, rfl, qS0⟩ := hS.intN hS1
  rw [add_nil1] at qS0
  have HAS := Lib.hid hasc
  clear hasc
  by_cases hz : nth S 0 = 0
  · have ez : (nth S 0 != 0) = false := by simp [hz]
    have HZ := Lib.hid hz
    have hfl2 : (F.length : Int) = (P.length : Int) := by rw [HFL.out]
    have HFL2 := Lib.hid hfl2
    clear hz hfl2
    obtain ⟨a2, rfl, _⟩ := h.r2.intN (k := 0) (by rw [HWL.out]; omega)
    obtain ⟨a1, rfl, _⟩ := h.r1.intN (k := 0) (by omega)
    have hin : ∀ j, j < S.length → ∃ y : Nat, nth S j = (y : Int) ∧ y < P.length := fun j hj => by
      have := (ascT_iff.1 HAS.out j hj).1
      exact ⟨(nth S j).toNat, by omega, by omega⟩
    have HIN := Lib.hid hin
    clear hin
    go_enter Try.func8, Try.ntmps8
    go_wp2_with fail
    generalize (((w.alloc (.cells #[.slice (some a1) P.length c1, .slice (some a2) W.length c2, .slice A3 F.length c3] 33)).alloc (.cells #[.int .i64 0, .int .i64 0] 28)).alloc (.cells #[.int .i64 0, .int .i64 0] 28)) = v at *
    refine (l8One_is _ _ _ _ _ _ _ _ _ _ _ _ hq _ (h.below HB1 (Nat.le_refl _))).mono ?_
    rintro e w2 ⟨rfl, b2⟩
    have R := R0.below b2
    clear b2 R0 HB1
    obtain ⟨f0, f1, f2, fz⟩ := id R.bx
    go_wp2_with fail
    refine (HPRE.out true HAS.out (some aS) cS _ (hS.below R.hb (Nat.le_refl _))).mono ?_
    rintro e w3 ⟨rfl, n3, rfl⟩
    have R := R.below (bDrewN (Below.refl _ _) n3)
    clear f0 f1 f2 fz
    obtain ⟨w3, hw3⟩ : ∃ w3, w3 = w2.drewN n3 := ⟨_, rfl⟩
    rw [← hw3] at R ⊢
    clear hw3
    have qS3 := (R.hb.cell (cell_lt qS0)).trans qS0
    obtain ⟨f0, f1, f2, fz⟩ := id R.bx
    go_wp2_with (at_make; refine wp_make_bools _ w3.heap.size rfl rfl _ _ rfl _ _ _ _ P.length rfl rfl (by first | rfl | exact HFL2.out) (by first | rfl | exact HFL2.out) (by omega) ?_; intro w4 ob b4)
    have R4 := R.below b4
    have szz : w.heap.size + 2 < w3.heap.size := R.bb.2.2.2.2
    rw [← inS_zero (S := S)] at ob
    clear R f0 f1 f2 fz b4 qS3
    go_loopw [12] (fun i wr => ∃ k : Nat, k ≤ S.length ∧ i = .int .i64 (k : Int) ∧ okT P S k = true ∧ OwnB wr w3.heap.size (some ⟨w3.heap.size, 0, none⟩) P.length (inS P S k) ∧ BeR w wr (.slice (some a1) P.length c1) (.slice (some a2) W.length c2) (.slice A3 F.length c3) (0, 0)) (fun i _ => S.length - (intOf i).toNat)
    case atStart => exact ⟨0, Nat.zero_le _, rfl, rfl, ob, R4⟩
    case round =>
      clear ob R4
      obtain ⟨k, hkl, rfl, hok', ob, R⟩ := hrel
      obtain ⟨wo, rfl⟩ : ∃ wo : World, wo = wr := ⟨_, rfl⟩
      have HO := Lib.hid hok'
      clear hok'
      obtain ⟨f0, f1, f2, fz⟩ := id R.bx
      by_cases hlt : k < S.length
      · obtain ⟨aq, eq, qS⟩ := (hS.below R.hb (Nat.le_refl _)).intN (k := k) hlt
        injection eq with eq
        subst eq
        obtain ⟨y, ey, hyl⟩ := HIN.out k hlt
        have HY := Lib.hid ey
        rw [ey] at qS
        clear ey
        obtain ⟨aq, eq, qW⟩ := (h.below R.hb (Nat.le_refl _)).r2.intN (k := y) (by rw [HWL.out]; exact hyl)
        injection eq with eq
        subst eq
        obtain ⟨aq, eq, qP⟩ := (h.below R.hb (Nat.le_refl _)).r1.intN (k := y) hyl
        injection eq with eq
        subst eq
        have j0 : (0 : Int) ≤ (y : Int) := by omega
        have j1 : (y : Int) < (W.length : Int) := by rw [HWL.out]; omega
        have j2 : (y : Int) < (P.length : Int) := by omega
        have j3 : y < W.length := by omega
        have hst := ob.set y true
        have oy := ob.cell (k := y) (by rw [inS_len]; exact hyl)
        have ofy := ob.frozen y
        have HSS := Lib.hid (inS_step (P := P) hlt HY.out)
        rw [HSS.out] at hst
        have R5 := R.grown hst.2 szz
        cases hey : endB P y
        · have hwy := wt_in hok hyl hey
          rcases Nat.eq_zero_or_pos y with rfl | hy0
          · have HN : Hid (okT P S (k + 1) = true) := Lib.hid (by rw [okT, HO.out, HY.out]; simp [hey])
            have qW0 := qW
            rw [add_nil1] at qW0
            clear hey
            go_wp2
            go_roundw
            case rel => exact ⟨k + 1, by omega, by go_num, HN.out, hst.1, R5⟩
            case measure => simp [intOf] <;> omega
          · obtain ⟨p, hpp, hpl⟩ := par_of hpar hy0 hyl
            rw [hpp] at qP
            have op := ob.cell (k := p) (by rw [inS_len]; omega)
            rw [inS_nth (by omega)] at op
            have j4 : (0 : Int) < (y : Int) := by omega
            have j5 : (p : Int) < (P.length : Int) := by omega
            cases hQ : hasI (S.take k) (p : Int)
            · rw [hQ] at op
              have HQ : Hid (pgB P W F a b S = false) := Lib.hid (by rw [HPT.out, pgT_4 (okT_no (k := k + 1) (by rw [okT, HY.out, Int.toNat_natCast, hpp, hQ, decide_eq_false (by omega)]; simp) (by omega))])
              clear hey hQ hpp
              obtain ⟨u0, u1, u2, u3, u4⟩ := id R.br
              obtain ⟨t0, t1, t2, t3, t4⟩ := id R.bb
              go_wp2
              exact bodyPost_ret (v := .tuple #[.agg #[.int .i64 0, .int .i64 0], .agg #[.int .i64 0, .int .i64 0], .bool false]) (by simp [results, Try.results8, go_sem, u0, u1, t0, t1]) rfl ⟨by rw [(pg_no HQ.out).1, (pg_no HQ.out).2, HQ.out], by with_reducible repeat (first | exact R.hb | refine Below.setCell ?_ (by simp <;> omega) _)⟩
            · rw [hQ] at op
              have HN : Hid (okT P S (k + 1) = true) := Lib.hid (by rw [okT, HO.out, HY.out, Int.toNat_natCast, hpp, hQ, hey]; simp)
              clear hey hQ hpp
              go_wp2
              go_roundw
              case rel => exact ⟨k + 1, by omega, by go_num, HN.out, hst.1, R5⟩
              case measure => simp [intOf] <;> omega
        · have hwy := wt_end hok hyl hey
          have HQ : Hid (pgB P W F a b S = false) := Lib.hid (by rw [HPT.out, pgT_4 (okT_no (k := k + 1) (by rw [okT, HY.out, Int.toNat_natCast, hey]; simp) (by omega))])
          clear hey
          obtain ⟨u0, u1, u2, u3, u4⟩ := id R.br
          obtain ⟨t0, t1, t2, t3, t4⟩ := id R.bb
          go_wp2
          exact bodyPost_ret (v := .tuple #[.agg #[.int .i64 0, .int .i64 0], .agg #[.int .i64 0, .int .i64 0], .bool false]) (by simp [results, Try.results8, go_sem, u0, u1, t0, t1]) rfl ⟨by rw [(pg_no HQ.out).1, (pg_no HQ.out).2, HQ.out], by with_reducible repeat (first | exact R.hb | refine Below.setCell ?_ (by simp <;> omega) _)⟩
      · obtain rfl : k = S.length := by omega
        have HT : Hid (pgT P S = true) := Lib.hid (pgT_iff.2 ⟨hS1, HAS.out, HZ.out, HO.out⟩)
        have HQ := Lib.hid (HPT.out.trans HT.out)
        have HSP := Lib.hid (pg_spec hk HT.out)
        have gnB := gnR_bd hk (nthB (inS P S S.length)) 0
        have tmB := tmR_bd hk (nthB (inS P S S.length)) 0
        have hb0 := hk.b0
        have hb4 := hk.b4
        have un1 := unitX_pos hok (b := b) (by have := hk.a1; have := hk.ab; omega) (show 0 < P.length by omega)
        have un2 := unitX_46 hok hb0 hb4 (show 0 < P.length by omega)
        go_wp2_with fail
        refine (l8Pair_c (some a1) P c1 (some a2) W c2 A3 F c3 a b hk w3.heap.size P.length w3.heap.size (inS P S S.length) (inS_len _) P.length 0 _ (by omega) (by omega) (h.below R.hb (Nat.le_refl _)) ob).mono ?_
        rintro e w5 ⟨rfl, b5⟩
        have bp := Bx.new w5 (.int .i64 (gnR P W F a b (nthB (inS P S S.length)) 0)) (.int .i64 (tmR P W a b (nthB (inS P S S.length)) 0)) 28
        have R6 := (R.below b5).below ((Below.refl _ _).alloc (Nat.le_refl _) (.cells #[.int .i64 (gnR P W F a b (nthB (inS P S S.length)) 0), .int .i64 (tmR P W a b (nthB (inS P S S.length)) 0)] 28))
        obtain ⟨e0', e1', e2', e3'⟩ := (R.below b5).bx
        clear R f0 f1 f2 fz b5 ob
        go_wp2_with fail
        refine (l8Units_c (some a1) P c1 (some a2) W c2 A3 F c3 b _ (h.below R6.hb (Nat.le_refl _)).r1 (h.below R6.hb (Nat.le_refl _)).r2 hok hb0 hb4 _).mono ?_
        rintro e w7 ⟨Au, cu, rfl, ou, b7⟩
        have R7 := R6.below b7
        have bp7 := bp.below b7
        have HUL := Lib.hid (unitL_length P W b)
        obtain ⟨gu, rfl, hgu, hgu2⟩ := ou.form (by rw [HUL.out]; omega)
        have qu := ou.cellN (k := 0) (by rw [HUL.out]; omega)
        rw [unitL_nth (by omega)] at qu
        clear R6 bp e0' e1' e2' e3' b7 ou
        generalize gnR P W F a b (nthB (inS P S S.length)) 0 = gn at *
        generalize tmR P W a b (nthB (inS P S S.length)) 0 = tm at *
        generalize unitX P W b 0 = un at *
        go_upto_region 13 with fail
        obtain ⟨p0, p1, p2, p3, p4⟩ := id bp7
        have hd1 : Below w7.heap.size w7 w7.drew := Below.drew (Below.refl _ _)
        have SK1 : Hid (∀ w', Below w7.heap.size w7 w' → w'.cell? ⟨w5.heap.size, 0, none⟩ = some (.int .i64 gn) ∧ w'.cell? ⟨w5.heap.size, 1, none⟩ = some (.int .i64 tm)) := Lib.hid fun w' HV => ⟨(HV.cell (p := ⟨w5.heap.size, 0, none⟩) p4).trans p0, (HV.cell (p := ⟨w5.heap.size, 1, none⟩) p4).trans p1⟩
        clear p0 p1 p2 p3 qu
        have hS1_0 := SK1.out _ hd1
        refine tamed_region (S := fun w' => w'.cell? ⟨w5.heap.size, 0, none⟩ = some (.int .i64 gn) ∧ w'.cell? ⟨w5.heap.size, 1, none⟩ = some (.int .i64 tm)) (fun k => k == 8 || k == 9 || k == 10) (by kernel_rfl) ?_
        refine tame0 (k := 0) ?_ rfl (by kernel_rfl) (by kernel_rfl) (by kernel_rfl) (fun _ _ _ h => h) (by kernel_rfl) (fun v => ?_) ?_
        rotate_left
        · (go_simp; all_goals rfl)
        simp only [Act.put, List.setIfInBounds_toArray]
        refine tameT (k := 1) ?_ rfl (by kernel_rfl) (by kernel_rfl) (by kernel_rfl) (by kernel_rfl) (by kernel_rfl) (fun _ _ _ h => h) (by kernel_rfl) hS1_0 (fun v hv => ?_) ?_
        rotate_left
        · (obtain ⟨k1, k2⟩ := hv; go_simp; all_goals rfl)
        simp only [Act.put]
        refine tame0 (k := 2) ?_ rfl (by kernel_rfl) (by kernel_rfl) (by kernel_rfl) (fun _ _ _ h => h) (by kernel_rfl) (fun v => ?_) ?_
        rotate_left
        · (go_simp; all_goals rfl)
        simp only [Act.put]
        refine tame0 (k := 4) ?_ rfl (by kernel_rfl) (by kernel_rfl) (by kernel_rfl) (fun _ _ _ h => h) (by kernel_rfl) (fun v => ?_) ?_
        rotate_left
        · (go_simp; all_goals rfl)
        simp only [Act.put]
        refine tameT (k := 5) ?_ rfl (by kernel_rfl) (by kernel_rfl) (by kernel_rfl) (by kernel_rfl) (by kernel_rfl) (fun _ _ _ h => h) (by kernel_rfl) hS1_0 (fun v hv => ?_) ?_
        rotate_left
        · (obtain ⟨k1, k2⟩ := hv; go_simp; all_goals rfl)
        simp only [Act.put]
        refine tame0 (k := 6) ?_ rfl (by kernel_rfl) (by kernel_rfl) (by kernel_rfl) (fun _ _ _ h => h) (by kernel_rfl) (fun v => ?_) ?_
        rotate_left
        · (go_simp; all_goals rfl)
        simp only [Act.put]
        refine tame_one (k := 3) (by kernel_rfl) rfl (by kernel_rfl) ?_
        go_simp
        refine (l2Cut_c _ _ (by omega) (by omega) (by omega) (by omega) _).mono ?_
        rintro e w8 ⟨rfl, b8⟩
        have hd1_1 := bUp hd1 b8 (Nat.le_refl _)
        have hS1_1 := Lib.hid (SK1.out _ hd1_1)
        refine ⟨by first | exact hS1_1 | exact Hid.out hS1_1, ?_⟩
        refine tame_one (k := 7) (by kernel_rfl) rfl (by kernel_rfl) ?_
        go_simp
        refine (l2Cut_c _ _ (by omega) (by omega) (by omega) (by omega) _).mono ?_
        rintro e w9 ⟨rfl, b9⟩
        have hd1_2 := bUp hd1_1 b9 hd1_1.size
        have hS1_2 := Lib.hid (SK1.out _ hd1_2)
        refine ⟨by first | exact hS1_2 | exact Hid.out hS1_2, ?_⟩
        have R9 := (R7.below ((Below.drew (Below.refl w7.heap.size w7)).trans b8)).below b9
        obtain ⟨u0, u1, u2, u3, u4⟩ := id R9.br
        obtain ⟨t0, t1, t2, t3, t4⟩ := id R9.bb
        have HB9 := R9.hb
        generalize cutT gn un = x1 at *
        generalize cutB gn un = x2 at *
        generalize cutT tm un = y1 at *
        generalize cutB tm un = y2 at *
        refine tame_one (k := 8) (by kernel_rfl) rfl (by kernel_rfl) ?_
        go_simp
        try (refine ⟨fun h => absurd h (by decide), ?_⟩)
        refine tame_one (k := 9) (by kernel_rfl) rfl (by kernel_rfl) ?_
        go_simp
        try (refine ⟨fun h => absurd h (by decide), ?_⟩)
        refine tame_one (k := 10) (by kernel_rfl) rfl (by kernel_rfl) ?_
        go_simp
        try (refine ⟨fun h => absurd h (by decide), ?_⟩)
        refine tame_end (by kernel_rfl) ?_
        go_wp2
        exact bodyPost_ret (v := .tuple #[.agg #[.int .i64 x1, .int .i64 x2], .agg #[.int .i64 y1, .int .i64 y2], .bool true]) (by simp [results, Try.results8, go_sem, u0, u1, t0, t1]) rfl ⟨by rw [HSP.out.1, HSP.out.2, HQ.out], by with_reducible repeat (first | exact HB9 | refine Below.setCell ?_ (by simp <;> omega) _)⟩
  · have HQ := Lib.hid (HPT.out.trans (pgT_3 hz))
    rw [(pg_no HQ.out).1, (pg_no HQ.out).2, HQ.out]
    have ez : (nth S 0 != 0) = true := by simp [hz]
    clear hz
    go_enter Try.func8, Try.ntmps8
    go_wp2_with fail
    generalize (((w.alloc (.cells #[.slice A1 P.length c1, .slice A2 W.length c2, .slice A3 F.length c3] 33)).alloc (.cells #[.int .i64 0, .int .i64 0] 28)).alloc (.cells #[.int .i64 0, .int .i64 0] 28)) = v at *
    refine (l8One_is _ _ _ _ _ _ _ _ _ _ _ _ hq _ (h.below HB1 (Nat.le_refl _))).mono ?_
    rintro e w2 ⟨rfl, b2⟩
    have R := R0.below b2
    obtain ⟨f0, f1, f2, fz⟩ := id R.bx
    go_wp2_with fail
    refine (HPRE.out true HAS.out (some aS) cS _ (hS.below R.hb (Nat.le_refl _))).mono ?_
    rintro e w3 ⟨rfl, n3, rfl⟩
    have R := R.below (bDrewN (Below.refl _ _) n3)
    have qS3 := (R.hb.cell (cell_lt qS0)).trans qS0
    clear f0 f1 f2 fz
    obtain ⟨u0, u1, u2, u3, u4⟩ := id R.br
    obtain ⟨t0, t1, t2, t3, t4⟩ := id R.bb
    go_wp2
    exact bodyPost_ret (v := .tuple #[.agg #[.int .i64 0, .int .i64 0], .agg #[.int .i64 0, .int .i64 0], .bool false]) (by simp [results, Try.results8, go_sem, u0, u1, t0, t1]) rfl ⟨rfl, by with_reducible repeat (first | exact R.hb | refine Below.setCell ?_ (by simp <;> omega) _)⟩
end Go.Proofs.Ytdhagkckkdaenaa
