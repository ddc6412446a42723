/- AreFairWeights: the program's walk. -/
import Derived.Test.YtnhclpajfejnoaaAfW
import Derived.Test.YtnhclpajfejnoaaMktW
namespace Go.Proofs.Ytnhclpajfejnoaa
open Go.RowKit

theorem kids_pos {P : List Int} {x : Nat} (h : endB P x = false) : 0 < (kids P (x : Int)).length := by
  refine List.length_pos_iff.2 fun h' => ?_
  rw [(kids_nil x).1 h'] at h; cases h
theorem balX_end {P s F : List Int} {x : Nat} (h : endB P x = true) : balX P s F x = true := by simp [balX, h]
theorem balX_in {P s F : List Int} {x : Nat} {q : Bool} (h : endB P x = false) (h2 : decide (kidS P (pS s F) x = pS s F x) = q) : balX P s F x = q := by simp [balX, h, h2]
theorem kS_succ (P : List Int) (v : Nat → Int) (x k : Nat) : kS P v x (k + 1) = kS P v x k + v (nth (kids P (x : Int)) k).toNat := rfl
theorem kid_nat' {P : List Int} {x k : Nat} (hk : k < (kids P (x : Int)).length) : ∃ j : Nat, j < P.length ∧ nth (kids P (x : Int)) k = (j : Int) := by
  rw [nth_eq hk]
  obtain ⟨j, hj, _, he⟩ := mem_kidTo.1 (List.getElem_mem hk)
  exact ⟨j, hj, he⟩
theorem Bx3.dr {W W' : World} {g : Nat} {x y z : Value} (h : Bx3 W g x y z) (hd : Dr W W') : Bx3 W' g x y z := by
  obtain ⟨n, rfl⟩ := hd
  exact h.drewN n
theorem implFw_no (A1 : Option Addr) (P : List Int) (c1 : Nat) (A2 : Option Addr) (W : List Int) (c2 : Nat) (A3 : Option Addr) (F : List Int) (c3 : Nat) (A7 : Option Addr) (X : List Int) (c7 : Nat) (w : World) (h : RdM w A1 P A2 W A3 F) (h7 : Rd w A7 (ints X)) (hl7 : X.length ≤ 16777216) (hq : fwB P W F X = false) :
    Calls Try.prog 31 #[mkV A1 P.length c1 A2 W.length c2 A3 F.length c3, .slice A7 X.length c7] w (Quietly w (.tuple #[.bool false, .bool false])) := by
  have HB1 : Below w.heap.size w (w.alloc (.cells #[.slice A1 P.length c1, .slice A2 W.length c2, .slice A3 F.length c3] 28)) := (Below.refl _ _).alloc (Nat.le_refl _) _
  have bx := Bx3.new w (.slice A1 P.length c1) (.slice A2 W.length c2) (.slice A3 F.length c3) 28
  have hv := h.below HB1 (Nat.le_refl _)
  cases hm : mktB P W F
  · clear hq
    go_enter Try.func31, Try.ntmps31
    go_wp2_with fail
    refine (isMarket_is _ _ _ _ _ _ _ _ _ _ hm _ hv).mono ?_
    rintro e w2 ⟨rfl, hb2⟩
    go_wp2
    go_ret2
    exact ⟨rfl, bUp HB1 hb2 HB1.size⟩
  · have HM := Lib.hid (mktB_iff.1 hm)
    by_cases hl : X.length = (endL P).length
    · have e1 : ((X.length : Int) != ((endL P).length : Int)) = false := by simp [hl]
      have ha : allB X 1 20 = false := by rw [← fwB_3 (F := F) (W := W) hm hl rfl]; exact hq
      clear hl hq
      go_enter Try.func31, Try.ntmps31
      go_wp2_with fail
      refine (isMarket_is _ _ _ _ _ _ _ _ _ _ hm _ hv).mono ?_
      rintro e w2 ⟨rfl, hb2⟩
      have HB2 := bUp HB1 hb2 HB1.size
      obtain ⟨f0, f1, f2, f3⟩ := bx.below hb2
      go_wp2_with fail
      refine (ends_c _ _ _ _ _ _ _ (h.below HB2 (Nat.le_refl _)).r1 HM.out.1.par HM.out.1.n1 HM.out.1.n2).mono ?_
      rintro e w3 ⟨Ae, ce, rfl, oe, hb3⟩
      have HB3 := bUp HB2 hb3 HB2.size
      clear oe hb3 f0 f1 f2 f3
      go_wp2_with fail
      refine (allWithin_is _ _ _ _ _ _ ha _ (h7.below HB3 (Nat.le_refl _)) hl7).mono ?_
      rintro e w4 ⟨rfl, rfl⟩
      go_wp2
      go_ret2
      exact ⟨rfl, HB3⟩
    · have e1 : ((X.length : Int) != ((endL P).length : Int)) = true := by simp; omega
      clear hl hq
      go_enter Try.func31, Try.ntmps31
      go_wp2_with fail
      refine (isMarket_is _ _ _ _ _ _ _ _ _ _ hm _ hv).mono ?_
      rintro e w2 ⟨rfl, hb2⟩
      have HB2 := bUp HB1 hb2 HB1.size
      obtain ⟨f0, f1, f2, f3⟩ := bx.below hb2
      go_wp2_with fail
      refine (ends_c _ _ _ _ _ _ _ (h.below HB2 (Nat.le_refl _)).r1 HM.out.1.par HM.out.1.n1 HM.out.1.n2).mono ?_
      rintro e w3 ⟨Ae, ce, rfl, oe, hb3⟩
      go_wp2
      go_ret2
      exact ⟨rfl, bUp HB2 hb3 HB2.size⟩

set_option maxRecDepth 20000 in
set_option maxHeartbeats 4000000 in
theorem implFw_yes (A1 : Option Addr) (P : List Int) (c1 : Nat) (A2 : Option Addr) (W : List Int) (c2 : Nat) (A3 : Option Addr) (F : List Int) (c3 : Nat) (A7 : Option Addr) (X : List Int) (c7 : Nat) (w : World) (h : RdM w A1 P A2 W A3 F) (h7 : Rd w A7 (ints X)) (hl7 : X.length ≤ 16777216) (hq : fwB P W F X = true) :
    Calls Try.prog 31 #[mkV A1 P.length c1 A2 W.length c2 A3 F.length c3, .slice A7 X.length c7] w (Quietly w (.tuple #[.bool (fwV P W F X), .bool true])) := by
  have HB1 : Below w.heap.size w (w.alloc (.cells #[.slice A1 P.length c1, .slice A2 W.length c2, .slice A3 F.length c3] 28)) := (Below.refl _ _).alloc (Nat.le_refl _) _
  have bx := Bx3.new w (.slice A1 P.length c1) (.slice A2 W.length c2) (.slice A3 F.length c3) 28
  have hv := h.below HB1 (Nat.le_refl _)
  have HQ := Lib.hid hq
  have hq3 : mktB P W F = true ∧ X.length = (endL P).length ∧ allB X 1 20 = true := by simpa [fwB, and_assoc] using hq
  obtain ⟨hm, hl, ha⟩ := hq3
  have HM := Lib.hid (mktB_iff.1 hm)
  have HX := Lib.hid hl
  have HA := Lib.hid ha
  have e1 : ((X.length : Int) != ((endL P).length : Int)) = false := by simp [hl]
  have hn1 := HM.out.1.n1
  have hn2 := HM.out.1.n2
  have hfl : F.length ≤ 24 := by have := HM.out.2.1; omega
  have hle := enTo_len P P.length
  change (endL P).length ≤ _ at hle
  clear hq hl
  go_enter Try.func31, Try.ntmps31
  go_wp2_with fail
  refine (isMarket_is _ _ _ _ _ _ _ _ _ _ hm _ hv).mono ?_
  rintro e w2 ⟨rfl, hb2⟩
  have HB2 := bUp HB1 hb2 HB1.size
  have bx2 := bx.below hb2
  obtain ⟨f0, f1, f2, f3⟩ := id bx2
  go_wp2_with fail
  refine (ends_c _ _ _ _ _ _ _ (h.below HB2 (Nat.le_refl _)).r1 HM.out.1.par HM.out.1.n1 HM.out.1.n2).mono ?_
  rintro e w3 ⟨Ae, ce, rfl, oe, hb3⟩
  have HB3 := bUp HB2 hb3 HB2.size
  have bx3 := bx2.below hb3
  clear oe hb3 hb2 bx bx2 hv f0 f1 f2 f3
  go_wp2_with fail
  refine (allWithin_is _ _ _ _ _ _ ha _ (h7.below HB3 (Nat.le_refl _)) hl7).mono ?_
  rintro e w4 ⟨rfl, rfl⟩
  clear e1 ha hm
  obtain ⟨f0, f1, f2, f3⟩ := id bx3
  have hFP : Hid (List.replicate F.length (0 : Int) = List.replicate P.length 0) := Lib.hid (by rw [HM.out.2.1])
  go_wp2_with (at_make; refine wp_make_intsH _ w3.heap.size rfl rfl _ _ rfl _ _ _ _ F.length rfl rfl rfl rfl (by omega) ?_; intro w4 ho4 hb4; have HB4 := bUp HB3 hb4 HB3.size; have bx4 := bx3.below hb4; clear f0 f1 f2 f3; obtain ⟨f0, f1, f2, f3⟩ := id bx4)
  refine (ends_c _ _ _ _ _ _ _ (h.below HB4 (Nat.le_refl _)).r1 HM.out.1.par HM.out.1.n1 HM.out.1.n2).mono ?_
  rintro e w5 ⟨Ae, ce, rfl, oe, hb5⟩
  have HB5 := bUp HB4 hb5 HB4.size
  have bx5 := bx4.below hb5
  rw [hFP.out] at ho4
  have ho5 := ho4.below hb5
  have hne := ho4.apartR oe (Nat.le_refl _)
  have hgw : w.heap.size < w3.heap.size := bx3.2.2.2
  have h75 := h7.below HB5 (Nat.le_refl _)
  clear f0 f1 f2 f3 bx3 bx4 hb4 hb5 ho4
  go_wp2
  go_loopw [40] (fun i wr => ∃ k : Nat, k ≤ (endL P).length ∧ i = .int .i64 (k : Int) ∧ Own wr w3.heap.size (some ⟨w3.heap.size, 0, none⟩) F.length (putE P X (List.replicate P.length 0) k) ∧ Own wr w4.heap.size Ae ce (endL P) ∧
      Bx3 wr w.heap.size (.slice A1 P.length c1) (.slice A2 W.length c2) (.slice A3 F.length c3) ∧ Below w.heap.size w wr) (fun i _ => (endL P).length - (intOf i).toNat)
  case atStart => exact ⟨0, by omega, rfl, ho5, oe, bx5, HB5⟩
  case round =>
    obtain ⟨wo, rfl⟩ : ∃ wo : World, wo = wr := ⟨_, rfl⟩
    obtain ⟨k, hk, rfl, ho, pe, hxx, hB⟩ := hrel
    clear ho5 oe bx5 HB5 h75
    have hx' := hxx
    obtain ⟨f0, f1, f2, f3⟩ := hxx
    by_cases hlt : k < (endL P).length
    · obtain ⟨j, hj, hje, hjn⟩ := endL_nth hlt
      obtain ⟨ae, rfl, qe⟩ := pe.rd.intN hlt
      rw [hjn] at qe
      obtain ⟨a7, rfl, q7⟩ := (h7.below hB (Nat.le_refl _)).intN (k := k) (by have := HX.out; omega)
      have i1 : (k : Int) < (X.length : Int) := by have := HX.out; omega
      have i2 : (j : Int) < (F.length : Int) := by have := HM.out.2.1; omega
      obtain ⟨u0, hco⟩ := ho.some_ (k := j) (by rw [putE_length]; simp; exact hj)
      have hfo := ho.frozen j
      have hst := ho.set j (nth X k)
      have hS : putE P X (List.replicate P.length 0) (k + 1) = (putE P X (List.replicate P.length 0) k).set j (nth X k) := by rw [putE, hjn, Int.toNat_natCast]
      rw [← hS] at hst
      have pe3 := pe.grown hst.2 (by simpa [blk] using hne)
      have hx3 := hx'.grownR hst.2 (by simp; omega)
      have hB3 := hB.grown hst.2 hB.size (fun k hk => by cases hk; omega)
      clear hS hjn
      go_wp2
      go_roundw
      case rel => exact ⟨k + 1, by omega, by go_num, hst.1, pe3, hx3, hB3⟩
      case measure => simp [intOf] <;> omega
    · have hkn : k = (endL P).length := by omega
      subst hkn
      have hal := Lib.hid (atE_length P X)
      have hoA : Own wo w3.heap.size (some ⟨w3.heap.size, 0, none⟩) F.length (atE P X) := ho
      have CG := gathered_c A1 P c1 A2 W.length c2 (some ⟨w3.heap.size, 0, none⟩) (atE P X) F.length wo (h.below hB (Nat.le_refl _)).r1 hoA.rd HM.out.1.par hn1 hn2 (by rw [hal.out]) (atE_bd HX.out HA.out)
      rw [hal.out] at CG
      have hFPl : (F.length : Int) = (P.length : Int) := by have := HM.out.2.1; omega
      have HFP2 := Lib.hid HM.out.2.1
      clear ho pe
      rw [← HFP2.out] at CG
      rw [HFP2.out] at CG
      go_wp2_with fail
      rw [HFP2.out]
      refine CG.mono ?_
      rintro e w6 ⟨As, cs, rfl, os, hb6⟩
      have HB6 := bUp hB hb6 hB.size
      have bx6 := hx'.below hb6
      have hSl : (gath P (atE P X)).length = P.length := by rw [gath_length, hal.out]
      have bS := gath_bd HM.out.1.par (by rw [hal.out]) (atE_bd HX.out HA.out) hn2 hn1
      generalize hSd : gath P (atE P X) = S at *
      have HSD := Lib.hid hSd
      have HSl := Lib.hid hSl
      rw [hSl]
      have bP := pS_bd bS HM.out.2.2
      have BP := Lib.hid bP
      clear hSd hSl CG hoA f0 f1 f2 f3 hx' hb6 bP bS hFPl
      go_wp2
      go_loopw [59] (fun i wr => ∃ k : Nat, k ≤ P.length ∧ i = .int .i64 (k : Int) ∧ (∀ j, j < k → balX P S F j = true) ∧ Own wr wo.heap.size As cs S ∧
          Bx3 wr w.heap.size (.slice A1 P.length c1) (.slice A2 W.length c2) (.slice A3 F.length c3) ∧ Below w.heap.size w wr) (fun i _ => P.length - (intOf i).toNat)
      case atStart => exact ⟨0, by omega, rfl, fun j hj => by omega, os, bx6, HB6⟩
      case round =>
        obtain ⟨wi, rfl⟩ : ∃ wi : World, wi = wr := ⟨_, rfl⟩
        obtain ⟨k, hk, rfl, hall, po, hxx, hB⟩ := hrel
        clear os bx6 HB6
        have HAl := Lib.hid hall
        clear hall
        have hx' := hxx
        obtain ⟨f0, f1, f2, f3⟩ := hxx
        by_cases hlt : k < P.length
        · go_wp2_with fail
          refine (children_c A1 P c1 A2 W.length c2 (k : Int) _ (h.below hB (Nat.le_refl _)).r1 hn2).mono ?_
          rintro e w7 ⟨Ak, ck, rfl, ok, hb7⟩
          have HB7 := bUp hB hb7 hB.size
          have bx7 := hx'.below hb7
          have po7 := po.below hb7
          have hkl := kidTo_len P (k : Int) P.length
          change (kids P (k : Int)).length ≤ _ at hkl
          have hrk := ok.rd
          have hrs := po7.rd
          have hr3 := (h.below HB7 (Nat.le_refl _)).r3
          clear f0 f1 f2 f3 ok hb7 hx' po
          go_wp2
          go_loopw [12, 68] (fun t i wr => ∃ u : Nat, u ≤ (kids P (k : Int)).length ∧ i = .int .i64 (u : Int) ∧ t = .int .i64 (kS P (pS S F) k u) ∧ Dr w7 wr) (fun _ i _ => (kids P (k : Int)).length - (intOf i).toNat)
          case atStart => exact ⟨0, by omega, rfl, rfl, Dr.refl _⟩
          case round =>
            obtain ⟨wj, rfl⟩ : ∃ wj : World, wj = wr := ⟨_, rfl⟩
            obtain ⟨u, hu, rfl, rfl, hdr⟩ := hrel
            have bk := kS_bd (P := P) (M := 9600) (by decide) BP.out k u
            by_cases hlu : u < (kids P (k : Int)).length
            · obtain ⟨j, hj, hjn⟩ := kid_nat' hlu
              obtain ⟨ak, rfl, qk⟩ := (hrk.dr hdr).intN hlu
              rw [hjn] at qk
              obtain ⟨aS, rfl, qs⟩ := (hrs.dr hdr).intN (k := j) (by rw [HSl.out]; exact hj)
              obtain ⟨a3, rfl, q3⟩ := (hr3.dr hdr).intN (k := j) (by have := HM.out.2.1; omega)
              obtain ⟨z0, z1, z2, zz⟩ := bx7.dr hdr
              have hks : kS P (pS S F) k (u + 1) = kS P (pS S F) k u + nth S j * nth F j := by rw [kS_succ, hjn, Int.toNat_natCast]; rfl
              have HK := Lib.hid hks
              have bp := BP.out j
              unfold pS at bp
              have e1 : IntKind.i64.wrap (nth S j * nth F j) = nth S j * nth F j := IntWalk.i64_in _ (by omega)
              have e2 : IntKind.i64.wrap (kS P (pS S F) k u + nth S j * nth F j) = kS P (pS S F) k u + nth S j * nth F j := IntWalk.i64_in _ (by omega)
              have i1 : (0 : Int) ≤ (j : Int) := by omega
              have i2 : (j : Int) < (S.length : Int) := by rw [HSl.out]; omega
              have i3 : (j : Int) < (F.length : Int) := by have := HM.out.2.1; omega
              have i4 : (j : Int) < (P.length : Int) := by omega
              have hd2 := hdr.drew
              clear hks hjn bp
              go_wp2
              refine wp_region_still_tail 12 (by kernel_rfl) (by kernel_rfl) ?_
              simp only [List.take_succ_cons, List.take_zero, List.drop_succ_cons, List.drop_zero]
              repeat still_step
              refine wpStill_nil ?_
              change wpList _ _ _ _ _ wj.drew
              clear e1 e2
              go_wp2
              go_roundw
              case rel => exact ⟨u + 1, by omega, by go_num, by rw [HK.out], hd2⟩
              case measure => simp [intOf] <;> omega
            · have hun : u = (kids P (k : Int)).length := by omega
              subst hun
              have hKD : Hid (kidS P (pS S F) k = kS P (pS S F) k (kids P (k : Int)).length) := Lib.hid rfl
              obtain ⟨aS, rfl, qs⟩ := (hrs.dr hdr).intN (k := k) (by rw [HSl.out]; exact hlt)
              obtain ⟨a3, rfl, q3⟩ := (hr3.dr hdr).intN (k := k) (by have := HM.out.2.1; omega)
              obtain ⟨z0, z1, z2, zz⟩ := bx7.dr hdr
              have bp := BP.out k
              unfold pS at bp
              have e1 : IntKind.i64.wrap (nth S k * nth F k) = nth S k * nth F k := IntWalk.i64_in _ (by omega)
              have i1 : (0 : Int) ≤ (k : Int) := by omega
              have i2 : (k : Int) < (S.length : Int) := by rw [HSl.out]; omega
              have i3 : (k : Int) < (F.length : Int) := by have := HM.out.2.1; omega
              have i4 : (k : Int) < (P.length : Int) := by omega
              have HBj := hdr.below HB7
              have poj := po7.dr hdr
              have bxj := bx7.dr hdr
              clear bp bk
              cases he : endB P k
              · have hkp := kids_pos he
                by_cases hs : kS P (pS S F) k (kids P (k : Int)).length = nth S k * nth F k
                · have e2 : (kS P (pS S F) k (kids P (k : Int)).length != nth S k * nth F k) = false := by simp [hs]
                  have HN : Hid (∀ j, j < k + 1 → balX P S F j = true) := Lib.hid fun j hj => by
                    rcases Nat.lt_or_ge j k with h' | h'
                    · exact HAl.out j h'
                    · rw [show j = k by omega]
                      exact balX_in he (decide_eq_true (hKD.out.trans hs))
                  clear hs he
                  go_wp2
                  go_quiet (fail)
                  go_wp2
                  go_roundw
                  case rel => exact ⟨k + 1, by omega, by go_num, HN.out, poj.drewN _, bxj.drewN _, bDrewN HBj _⟩
                  case measure => simp [intOf] <;> omega
                · have e2 : (kS P (pS S F) k (kids P (k : Int)).length != nth S k * nth F k) = true := by simp [hs]
                  have HN : Hid (fwV P W F X = false) := Lib.hid (fwV_at hlt (by rw [HSD.out]; exact balX_in he (decide_eq_false (fun h' => hs (hKD.out.symm.trans h')))))
                  clear hs he
                  go_wp2
                  go_quiet (fail)
                  go_wp2
                  go_ret2
                  exact ⟨by rw [HN.out] <;> rfl, bDrewN HBj _⟩
              · have hk0 : (kids P (k : Int)).length = 0 := by rw [(kids_nil k).2 he]; rfl
                have HN : Hid (∀ j, j < k + 1 → balX P S F j = true) := Lib.hid fun j hj => by
                  rcases Nat.lt_or_ge j k with h' | h'
                  · exact HAl.out j h'
                  · rw [show j = k by omega]
                    exact balX_end he
                clear he
                go_wp2
                go_quiet (fail)
                go_wp2
                go_roundw
                case rel => exact ⟨k + 1, by omega, by go_num, HN.out, poj.drewN _, bxj.drewN _, bDrewN HBj _⟩
                case measure => simp [intOf] <;> omega
        · have HN : Hid (fwV P W F X = true) := Lib.hid (fwV_all HQ.out fun x hx => by rw [HSD.out]; exact HAl.out x (by omega))
          go_wp2
          go_ret2
          exact ⟨by rw [HN.out] <;> rfl, hB⟩
theorem implFw_c (A1 : Option Addr) (P : List Int) (c1 : Nat) (A2 : Option Addr) (W : List Int) (c2 : Nat) (A3 : Option Addr) (F : List Int) (c3 : Nat) (A7 : Option Addr) (X : List Int) (c7 : Nat) (w : World) (h : RdM w A1 P A2 W A3 F) (h7 : Rd w A7 (ints X)) (hl7 : X.length ≤ 16777216) :
    Calls Try.prog 31 #[mkV A1 P.length c1 A2 W.length c2 A3 F.length c3, .slice A7 X.length c7] w (Quietly w (.tuple #[.bool (fwV P W F X), .bool (fwB P W F X)])) := by
  cases hq : fwB P W F X with
  | false => rw [fwV_no hq]; exact implFw_no A1 P c1 A2 W c2 A3 F c3 A7 X c7 w h h7 hl7 hq
  | true => exact implFw_yes A1 P c1 A2 W c2 A3 F c3 A7 X c7 w h h7 hl7 hq
end Go.Proofs.Ytnhclpajfejnoaa
