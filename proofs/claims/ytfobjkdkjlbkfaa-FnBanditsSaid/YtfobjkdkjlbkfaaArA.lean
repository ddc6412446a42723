/- Arms: both packages' walks. -/
import Derived.Test.YtfobjkdkjlbkfaaTreA
import Derived.Test.YtfobjkdkjlbkfaaTrA
namespace Go.Proofs.Ytfobjkdkjlbkfaa
open Go.RowKit

/-- What one step of the depths reads. -/
theorem dep_facts {P : List Int} (hp : ParOk P) (hn : P.length ≤ 24) {x : Nat} (hx : 1 ≤ x) (hlt : x < P.length) : ∃ p : Nat, p < x ∧ nth P x = (p : Int) ∧ depL P x = depL P (x - 1) ++ [nth (depL P (x - 1)) p + 1] ∧ 0 ≤ nth (depL P (x - 1)) p ∧ nth (depL P (x - 1)) p ≤ 24 := by
  have hup := hp.up x hx hlt
  obtain ⟨p, hpp⟩ : ∃ p : Nat, nth P x = (p : Int) := ⟨(nth P x).toNat, by omega⟩
  have := depL_bd P (x - 1) p
  exact ⟨p, by omega, hpp, dep_step hx hpp, by omega, by omega⟩
set_option maxHeartbeats 1000000 in
theorem depths_c (A1 : Option Addr) (P : List Int) (c1 : Nat) (A2 : Option Addr) (n2 c2 : Nat) (w : World) (h1 : Rd w A1 (ints P)) (hp : ParOk P) (hn1 : 1 ≤ P.length) (hn : P.length ≤ 24) :
    Calls Try.prog 72 #[trV A1 P.length c1 A2 n2 c2] w (Row w (dep P)) := by
  have HB1 : Below w.heap.size w (w.alloc (.cells #[.slice A1 P.length c1, .slice A2 n2 c2] 26)) := (Below.refl _ _).alloc (Nat.le_refl _) _
  have bx := Bx.new w (.slice A1 P.length c1) (.slice A2 n2 c2) 26
  go_enter Try.func72, Try.ntmps72
  go_wp2_with (at_make; refine wp_make_intsH _ (w.heap.size + 1) (by simp) rfl _ _ rfl _ _ _ _ P.length rfl rfl rfl rfl (by omega) ?_; intro w1 ho1 hb1)
  have HB2 := bUp HB1 hb1 HB1.size
  have bx1 := bx.below hb1
  have e0 : List.replicate P.length (0 : Int) = depL P (1 - 1) ++ List.replicate (P.length - 1) 0 := by
    obtain ⟨m, hm⟩ : ∃ m, P.length = m + 1 := ⟨P.length - 1, by omega⟩
    rw [hm, List.replicate_succ]
    rfl
  rw [e0] at ho1
  clear bx hb1 HB1 e0
  go_loopw [4] (fun i wr => ∃ x : Nat, 1 ≤ x ∧ x ≤ P.length ∧ i = .int .i64 (x : Int) ∧ Own wr (w.heap.size + 1) (some ⟨w.heap.size + 1, 0, none⟩) P.length (depL P (x - 1) ++ List.replicate (P.length - x) 0) ∧
      Bx wr w.heap.size (.slice A1 P.length c1) (.slice A2 n2 c2) ∧ Below w.heap.size w wr) (fun i _ => P.length - (intOf i).toNat)
  case atStart => exact ⟨1, by omega, by omega, rfl, ho1, bx1, HB2⟩
  case round =>
    obtain ⟨x, hx1, hk, rfl, ho, hx, hB⟩ := hrel
    clear ho1 bx1 HB2
    have HLW := Lib.hid (dep_len (P := P) hx1)
    have hx' := hx
    obtain ⟨f0, f1, f2, f3, f4⟩ := hx
    by_cases hlt : x < P.length
    · obtain ⟨p, hpx, hpp, hw, b1, b2⟩ := dep_facts hp hn hx1 hlt
      have HW := Lib.hid hw
      obtain ⟨a1, rfl, q1⟩ := (h1.below hB (Nat.le_refl _)).intN hlt
      rw [hpp] at q1
      have qo := ho.cellN (k := p) (by rw [List.length_append, HLW.out]; omega)
      rw [nth_app_l (by rw [HLW.out]; exact hpx)] at qo
      obtain ⟨ux, qx⟩ := ho.some_ (k := x) (by rw [List.length_append, HLW.out]; simp; omega)
      have hfx := ho.frozen x
      have hst := ho.set x (nth (depL P (x - 1)) p + 1)
      rw [set_fill _ _ _ _ HLW.out.symm (by omega), ← HW.out] at hst
      clear hpp hw
      go_wp2
      go_roundw
      case rel => exact ⟨x + 1, by omega, by omega, by go_num, by rw [Nat.add_sub_cancel, Nat.sub_add_eq]; exact hst.1, hx'.grown hst.2 (by simp), hB.grown hst.2 hB.size (fun k hk => by cases hk; omega)⟩
      case measure => simp [intOf] <;> omega
    · have hmn : x = P.length := by omega
      subst hmn
      rw [Nat.sub_self, List.replicate_zero, List.append_nil] at ho
      have HD := Lib.hid (dep_length (P := P) hn1)
      go_wp2
      go_ret
      exact ⟨_, _, by rw [HD.out] <;> rfl, ho.mono (by omega), hB⟩
set_option maxHeartbeats 1000000 in
theorem l2Depths_c (A1 : Option Addr) (P : List Int) (c1 : Nat) (A2 : Option Addr) (n2 c2 : Nat) (w : World) (h1 : Rd w A1 (ints P)) (hp : ParOk P) (hn1 : 1 ≤ P.length) (hn : P.length ≤ 24) :
    Calls Try.prog 114 #[trV A1 P.length c1 A2 n2 c2] w (Row w (dep P)) := by
  have HB1 : Below w.heap.size w ((w.alloc (.cells #[.slice A1 P.length c1, .slice A2 n2 c2] 26)).alloc (.cells #[.int .i64 0] 3)) := ((Below.refl _ _).alloc (Nat.le_refl _) _).alloc (by simp) _
  have bx := (Bx.new w (.slice A1 P.length c1) (.slice A2 n2 c2) 26).alloc (.cells #[.int .i64 0] 3)
  have O0 := Own.lit (w.alloc (.cells #[.slice A1 P.length c1, .slice A2 n2 c2] 26)) [0] (by simp)
  rw [World.size_alloc] at O0
  go_enter Try.func114, Try.ntmps114
  go_wp2
  go_loopw [3, 4] (fun t i wr => ∃ x : Nat, ∃ A c, 1 ≤ x ∧ x ≤ P.length ∧ i = .int .i64 (x : Int) ∧ t = .slice A x c ∧ Own wr (w.heap.size + 1) A c (depL P (x - 1)) ∧ Bx wr w.heap.size (.slice A1 P.length c1) (.slice A2 n2 c2) ∧ Below w.heap.size w wr) (fun _ i _ => P.length - (intOf i).toNat)
  case atStart => exact ⟨1, some ⟨w.heap.size + 1, 0, none⟩, 1, by omega, by omega, rfl, rfl, O0, bx, HB1⟩
  case round =>
    obtain ⟨wo, rfl⟩ : ∃ wo : World, wo = wr := ⟨_, rfl⟩
    obtain ⟨x, A, c, hx1, hk, rfl, rfl, ho, hx, hB⟩ := hrel
    clear HB1 O0 bx
    have HLW := Lib.hid (dep_len (P := P) hx1)
    have hx' := hx
    obtain ⟨f0, f1, f2, f3, f4⟩ := hx
    by_cases hlt : x < P.length
    · obtain ⟨p, hpx, hpp, hw, b1, b2⟩ := dep_facts hp hn hx1 hlt
      have HW := Lib.hid hw
      obtain ⟨a1, rfl, q1⟩ := (h1.below hB (Nat.le_refl _)).intN hlt
      rw [hpp] at q1
      obtain ⟨ao, rfl, qo⟩ := ho.rd.intN (k := p) (by rw [HLW.out]; exact hpx)
      clear hpp hw
      go_wp2_with (at_builtin; refine wp_append1 _ _ _ rfl _ _ rfl (w.heap.size + 1) (some ao) x c (depL P (x - 1)) rfl (by rw [HLW.out]) ho rfl (by rw [HLW.out]; omega) (by omega) ?_; rw [← HW.out]; intro A2 c2 w2 ho2 hg2 hb2; have HB2 := hB.grown hg2 hB.size (fun k hk => by have := ho.ge k hk; omega); have hx2 := hx'.grown hg2 (row_ne ho (by omega)); clear hg2 hb2)
      go_roundw
      case rel => exact ⟨x + 1, A2, c2, by omega, by omega, by go_num, rfl, by rw [Nat.add_sub_cancel]; exact ho2, hx2, HB2⟩
      case measure => simp [intOf] <;> omega
    · have hmn : x = P.length := by omega
      subst hmn
      have HD := Lib.hid (dep_length (P := P) hn1)
      go_wp2
      go_ret
      exact ⟨A, c, by rw [HD.out] <;> rfl, ho.mono (by omega), hB⟩

theorem slMax_c (A : Option Addr) (xs : List Int) (c : Nat) (w : World) (ha : Rd w A (ints xs)) (h1 : 1 ≤ xs.length) (hl : xs.length ≤ 1000) (hb : ∀ i, 0 ≤ nth xs i ∧ nth xs i ≤ 1000000) :
    Calls Try.prog 121 #[.slice A xs.length c] w fun e w' => e = .returned (.int .i64 (mxTo xs xs.length)) ∧ w = w' := by
  obtain ⟨a, rfl, hc0⟩ := ha.intN (k := 0) (by omega)
  rw [add_nil] at hc0
  have hb0 := hb 0
  have e0 : mxTo xs 1 = nth xs 0 := by
    rw [mxTo, mxTo]
    unfold mxI
    split <;> omega
  have HE := Lib.hid e0
  clear e0
  go_enter Try.func121, Try.ntmps121
  go_wp2
  go_loop [3, 4] (fun m i => ∃ k : Nat, 1 ≤ k ∧ k ≤ xs.length ∧ i = .int .i64 k ∧ m = .int .i64 (mxTo xs k)) (fun _ i => xs.length - (intOf i).toNat)
  case atStart => exact ⟨1, by omega, h1, rfl, by rw [HE.out]⟩
  case round =>
    obtain ⟨k, hk1, hk, rfl, rfl⟩ := hrel
    by_cases hlt : k < xs.length
    · obtain ⟨a', he, hca⟩ := ha.intN hlt
      obtain rfl : a = a' := by injection he
      have hx := hb k
      have hm := mxTo_bd hb (by omega) k
      have HS : Hid (mxTo xs (k + 1) = mxI (mxTo xs k) (nth xs k)) := Lib.hid rfl
      generalize nth xs k = x at *
      generalize hv : mxTo xs k = v at *
      by_cases hxv : x < v
      · have HS2 : Hid (mxTo xs (k + 1) = v) := Lib.hid (by rw [HS.out, mxI_l hxv])
        clear hv
        go_wp2
        all_goals
          go_round
          case rel => exact ⟨k + 1, by omega, by omega, by go_num, by rw [HS2.out]⟩
          case measure => simp [intOf] <;> omega
      · have HS2 : Hid (mxTo xs (k + 1) = x) := Lib.hid (by rw [HS.out, mxI_r hxv])
        clear hv
        by_cases hvx : v < x
        · go_wp2
          all_goals
            go_round
            case rel => exact ⟨k + 1, by omega, by omega, by go_num, by rw [HS2.out]⟩
            case measure => simp [intOf] <;> omega
        · obtain rfl : x = v := by omega
          clear hxv hvx
          go_wp2
          all_goals
            go_round
            case rel => exact ⟨k + 1, by omega, by omega, by go_num, by rw [HS2.out]⟩
            case measure => simp [intOf] <;> omega
    · have hkn : k = xs.length := by omega
      subst hkn
      go_wp2
      go_ret
      exact ⟨rfl, rfl⟩
theorem height_c (A1 : Option Addr) (P : List Int) (c1 : Nat) (A2 : Option Addr) (n2 c2 : Nat) (A3 : Option Addr) (n3 c3 : Nat) (w : World) (h1 : Rd w A1 (ints P)) (hp : ParOk P) (hn1 : 1 ≤ P.length) (hn : P.length ≤ 24) :
    Calls Try.prog 73 #[mkV A1 P.length c1 A2 n2 c2 A3 n3 c3] w (Quietly w (.int .i64 (hgt P))) := by
  have HB1 : Below w.heap.size w (w.alloc (.cells #[.slice A1 P.length c1, .slice A2 n2 c2, .slice A3 n3 c3] 28)) := (Below.refl _ _).alloc (Nat.le_refl _) _
  have HD := Lib.hid (dep_length (P := P) hn1)
  go_enter Try.func73, Try.ntmps73
  go_wp2_with fail
  refine (depths_c A1 P c1 A2 n2 c2 _ (h1.below HB1 (Nat.le_refl _)) hp hn1 hn).mono ?_
  rintro e w2 ⟨A, c, rfl, ho, hb2⟩
  have HB2 := bUp HB1 hb2 HB1.size
  go_wp2_with fail
  refine (slMax_c A (dep P) c _ ho.rd (by rw [HD.out]; exact hn1) (by rw [HD.out]; omega) (fun i => by have := dep_bd P i; omega)).mono ?_
  rintro e w3 ⟨rfl, rfl⟩
  rw [HD.out]
  go_wp2
  go_ret
  exact ⟨rfl, HB2⟩
theorem l8Deepest_c (A1 : Option Addr) (P : List Int) (c1 : Nat) (A2 : Option Addr) (n2 c2 : Nat) (w : World) (h1 : Rd w A1 (ints P)) (hp : ParOk P) (hn1 : 1 ≤ P.length) (hn : P.length ≤ 24) :
    Calls Try.prog 113 #[trV A1 P.length c1 A2 n2 c2] w (Quietly w (.int .i64 (hgt P))) := by
  have HB1 : Below w.heap.size w (w.alloc (.cells #[.slice A1 P.length c1, .slice A2 n2 c2] 26)) := (Below.refl _ _).alloc (Nat.le_refl _) _
  have HD := Lib.hid (dep_length (P := P) hn1)
  go_enter Try.func113, Try.ntmps113
  go_wp2_with fail
  refine (l2Depths_c A1 P c1 A2 n2 c2 _ (h1.below HB1 (Nat.le_refl _)) hp hn1 hn).mono ?_
  rintro e w2 ⟨A, c, rfl, ho, hb2⟩
  have HB2 := bUp HB1 hb2 HB1.size
  have hr := ho.rd
  rw [HD.out]
  clear ho hb2
  go_wp2
  go_loop [3, 5] (fun m i => ∃ k : Nat, k ≤ P.length ∧ i = .int .i64 k ∧ m = .int .i64 (mxTo (dep P) k)) (fun _ i => P.length - (intOf i).toNat)
  case atStart => exact ⟨0, by omega, rfl, rfl⟩
  case round =>
    obtain ⟨k, hk, rfl, rfl⟩ := hrel
    by_cases hlt : k < P.length
    · obtain ⟨a, rfl, hca⟩ := hr.intN (k := k) (by rw [HD.out]; exact hlt)
      have HS : Hid (mxTo (dep P) (k + 1) = mxI (mxTo (dep P) k) (nth (dep P) k)) := Lib.hid rfl
      go_wp2_with fail
      refine (l1Most_is _ _ _ HS.out.symm _).mono ?_
      rintro e w' ⟨rfl, rfl⟩
      go_wp2
      go_round
      case rel => exact ⟨k + 1, by omega, by go_num, rfl⟩
      case measure => simp [intOf] <;> omega
    · have hkn : k = P.length := by omega
      subst hkn
      go_wp2
      go_ret
      exact ⟨rfl, HB2⟩

theorem armB_1 {P W F : List Int} (h : treeB P W = false) : armB P W F = false := by simp [armB, h]
theorem armB_2 {P W F : List Int} (h : ¬ P.length ≤ 9) : armB P W F = false := armB_no fun h' => h h'.n9
theorem armB_3 {P W F : List Int} (h : ¬ hgt P ≤ 4) : armB P W F = false := armB_no fun h' => h h'.h4
theorem armB_4 {P W F : List Int} (h : F.length ≠ P.length) : armB P W F = false := armB_no fun h' => h h'.len
theorem armB_5 {P W F : List Int} (h : allB F (-99) 99 = false) : armB P W F = false := armB_no fun h' => by rw [h'.fees] at h; cases h
theorem armB_6 {P W F : List Int} (h : zB P F = false) : armB P W F = false := armB_no fun h' => by rw [h'.z] at h; cases h
theorem allWithin_is' (A : Option Addr) (xs : List Int) (c : Nat) (q : Bool) (h : allB xs (-99) 99 = q) (w : World) (ha : Rd w A (ints xs)) (hl : xs.length ≤ 16777216) :
    Calls Try.prog 93 #[.slice A xs.length c, .int .i64 (-99), .int .i64 99] w fun e w' => e = .returned (.bool q) ∧ w = w' := allWithin_is _ _ _ _ _ _ h _ ha hl

set_option maxRecDepth 20000 in
set_option maxHeartbeats 1000000 in
theorem implArm_c (A1 : Option Addr) (P : List Int) (c1 : Nat) (A2 : Option Addr) (W : List Int) (c2 : Nat) (A3 : Option Addr) (F : List Int) (c3 : Nat) (w : World) (h : RdM w A1 P A2 W A3 F) :
    Calls Try.prog 40 #[mkV A1 P.length c1 A2 W.length c2 A3 F.length c3] w (Quietly w (.bool (armB P W F))) := by
  have HB1 : Below w.heap.size w (w.alloc (.cells #[.slice A1 P.length c1, .slice A2 W.length c2, .slice A3 F.length c3] 28)) := (Below.refl _ _).alloc (Nat.le_refl _) _
  have bx := Bx3.new w (.slice A1 P.length c1) (.slice A2 W.length c2) (.slice A3 F.length c3) 28
  have hv := h.below HB1 (Nat.le_refl _)
  have l1 := h.l1
  have l3 := h.l3
  cases ht : treeB P W
  · rw [armB_1 ht]
    go_enter Try.func40, Try.ntmps40
    go_wp2_with fail
    refine (isTree_is _ _ _ _ _ _ _ ht _ hv.r1 hv.r2 hv.l1 hv.l2).mono ?_
    rintro e w2 ⟨rfl, hb2⟩
    go_wp2
    go_ret
    exact ⟨rfl, bUp HB1 hb2 HB1.size⟩
  · have HT := Lib.hid (treeB_iff.1 ht)
    by_cases h9 : P.length ≤ 9
    · by_cases hh : hgt P ≤ 4
      · by_cases hl : F.length = P.length
        · have e1 : ((F.length : Int) != (P.length : Int)) = false := by simp [hl]
          have HL := Lib.hid hl
          clear hl
          cases ha : allB F (-99) 99
          · rw [armB_5 ha]
            go_enter Try.func40, Try.ntmps40
            go_wp2_with fail
            refine (isTree_is _ _ _ _ _ _ _ ht _ hv.r1 hv.r2 hv.l1 hv.l2).mono ?_
            rintro e w2 ⟨rfl, hb2⟩
            have HB2 := bUp HB1 hb2 HB1.size
            have bx2 := bx.below hb2
            obtain ⟨f0, f1, f2, fz⟩ := id bx2
            go_wp2_with fail
            refine (height_c _ _ _ _ _ _ _ _ _ _ (h.below HB2 (Nat.le_refl _)).r1 HT.out.par HT.out.n1 HT.out.n2).mono ?_
            rintro e w3 ⟨rfl, hb3⟩
            have HB3 := bUp HB2 hb3 HB2.size
            clear f0 f1 f2 fz
            obtain ⟨f0, f1, f2, fz⟩ := bx2.below hb3
            go_wp2_with fail
            refine (allWithin_is' _ _ _ _ ha _ (h.below HB3 (Nat.le_refl _)).r3 l3).mono ?_
            rintro e w4 ⟨rfl, rfl⟩
            go_wp2
            go_ret
            exact ⟨rfl, HB3⟩
          · go_enter Try.func40, Try.ntmps40
            go_wp2_with fail
            refine (isTree_is _ _ _ _ _ _ _ ht _ hv.r1 hv.r2 hv.l1 hv.l2).mono ?_
            rintro e w2 ⟨rfl, hb2⟩
            have HB2 := bUp HB1 hb2 HB1.size
            have bx2 := bx.below hb2
            obtain ⟨f0, f1, f2, fz⟩ := id bx2
            go_wp2_with fail
            refine (height_c _ _ _ _ _ _ _ _ _ _ (h.below HB2 (Nat.le_refl _)).r1 HT.out.par HT.out.n1 HT.out.n2).mono ?_
            rintro e w3 ⟨rfl, hb3⟩
            have HB3 := bUp HB2 hb3 HB2.size
            have bx3 := bx2.below hb3
            clear f0 f1 f2 fz
            obtain ⟨f0, f1, f2, fz⟩ := id bx3
            go_wp2_with fail
            refine (allWithin_is' _ _ _ _ ha _ (h.below HB3 (Nat.le_refl _)).r3 l3).mono ?_
            rintro e w' ⟨rfl, rfl⟩
            go_wp2_with fail
            refine (isEnd_c _ _ _ _ _ _ _ (h.below HB3 (Nat.le_refl _)).r1 HT.out.par HT.out.n1 HT.out.n2).mono ?_
            rintro e w4 ⟨g, cg, rfl, og, hb4⟩
            have HB4 := bUp HB3 hb4 HB3.size
            have h3w := (h.below HB4 (Nat.le_refl _)).r3
            clear f0 f1 f2 fz
            obtain ⟨f0, f1, f2, fz⟩ := bx3.below hb4
            clear bx bx2 bx3 hb2 hb3 hb4 hv
            go_wp2
            go_loop [40] (fun i => ∃ k : Nat, k ≤ P.length ∧ i = .int .i64 k ∧ ∀ x, x < k → endB P x = true → nth F x = 0) (fun i => P.length - (intOf i).toNat)
            case atStart => exact ⟨0, by omega, rfl, fun x hx => by omega⟩
            case round =>
              obtain ⟨k, hk, rfl, hz⟩ := hrel
              have HZ := Lib.hid hz
              clear hz
              by_cases hlt : k < P.length
              · have hco := og.cell (k := k) (by rw [endsB_length]; exact hlt)
                rw [endsB_nth hlt] at hco
                obtain ⟨b, rfl, hcb⟩ := h3w.intN (k := k) (by have := HL.out; omega)
                have hkw : (k : Int) < (F.length : Int) := by have := HL.out; omega
                cases he : endB P k
                · rw [he] at hco
                  have HN : Hid (∀ x, x < k + 1 → endB P x = true → nth F x = 0) := Lib.hid fun x hx he2 => by
                    rcases Nat.lt_or_ge x k with h' | h'
                    · exact HZ.out x h' he2
                    · obtain rfl : x = k := by omega
                      rw [he] at he2; cases he2
                  clear he
                  go_wp2
                  go_round
                  case rel => exact ⟨k + 1, by omega, by go_num, HN.out⟩
                  case measure => simp [intOf] <;> omega
                · rw [he] at hco
                  by_cases hx : nth F k = 0
                  · have HN : Hid (∀ x, x < k + 1 → endB P x = true → nth F x = 0) := Lib.hid fun x hx2 he2 => by
                      rcases Nat.lt_or_ge x k with h' | h'
                      · exact HZ.out x h' he2
                      · obtain rfl : x = k := by omega
                        exact hx
                    have e3 : (nth F k != 0) = false := by simp [hx]
                    clear he hx
                    go_wp2
                    go_round
                    case rel => exact ⟨k + 1, by omega, by go_num, HN.out⟩
                    case measure => simp [intOf] <;> omega
                  · have HN := Lib.hid (armB_6 (W := W) (zB_no hlt he hx))
                    have e3 : (nth F k != 0) = true := by simp [hx]
                    clear he hx
                    go_wp2
                    go_ret
                    exact ⟨by rw [HN.out] <;> rfl, HB4⟩
              · have HN : Hid (armB P W F = true) := Lib.hid (armB_iff.2 ⟨HT.out, h9, hh, HL.out, ha, zB_iff.2 fun x hx he => HZ.out x (by omega) he⟩)
                go_wp2
                go_ret
                exact ⟨by rw [HN.out] <;> rfl, HB4⟩
        · have e1 : ((F.length : Int) != (P.length : Int)) = true := by simp; omega
          rw [armB_4 hl]
          clear hl
          go_enter Try.func40, Try.ntmps40
          go_wp2_with fail
          refine (isTree_is _ _ _ _ _ _ _ ht _ hv.r1 hv.r2 hv.l1 hv.l2).mono ?_
          rintro e w2 ⟨rfl, hb2⟩
          have HB2 := bUp HB1 hb2 HB1.size
          have bx2 := bx.below hb2
          obtain ⟨f0, f1, f2, fz⟩ := id bx2
          go_wp2_with fail
          refine (height_c _ _ _ _ _ _ _ _ _ _ (h.below HB2 (Nat.le_refl _)).r1 HT.out.par HT.out.n1 HT.out.n2).mono ?_
          rintro e w3 ⟨rfl, hb3⟩
          have HB3 := bUp HB2 hb3 HB2.size
          clear f0 f1 f2 fz
          obtain ⟨f0, f1, f2, fz⟩ := bx2.below hb3
          go_wp2
          go_ret
          exact ⟨rfl, HB3⟩
      · rw [armB_3 hh]
        go_enter Try.func40, Try.ntmps40
        go_wp2_with fail
        refine (isTree_is _ _ _ _ _ _ _ ht _ hv.r1 hv.r2 hv.l1 hv.l2).mono ?_
        rintro e w2 ⟨rfl, hb2⟩
        have HB2 := bUp HB1 hb2 HB1.size
        obtain ⟨f0, f1, f2, fz⟩ := bx.below hb2
        go_wp2_with fail
        refine (height_c _ _ _ _ _ _ _ _ _ _ (h.below HB2 (Nat.le_refl _)).r1 HT.out.par HT.out.n1 HT.out.n2).mono ?_
        rintro e w3 ⟨rfl, hb3⟩
        go_wp2
        go_ret
        exact ⟨rfl, bUp HB2 hb3 HB2.size⟩
    · rw [armB_2 h9]
      go_enter Try.func40, Try.ntmps40
      go_wp2_with fail
      refine (isTree_is _ _ _ _ _ _ _ ht _ hv.r1 hv.r2 hv.l1 hv.l2).mono ?_
      rintro e w2 ⟨rfl, hb2⟩
      go_wp2
      go_ret
      exact ⟨rfl, bUp HB1 hb2 HB1.size⟩

set_option maxRecDepth 20000 in
set_option maxHeartbeats 1000000 in
theorem l8Arm_c (A1 : Option Addr) (P : List Int) (c1 : Nat) (A2 : Option Addr) (W : List Int) (c2 : Nat) (A3 : Option Addr) (F : List Int) (c3 : Nat) (w : World) (h : RdM w A1 P A2 W A3 F) :
    Calls Try.prog 96 #[mkV A1 P.length c1 A2 W.length c2 A3 F.length c3] w (Quietly w (.bool (armB P W F))) := by
  have HB1 : Below w.heap.size w (w.alloc (.cells #[.slice A1 P.length c1, .slice A2 W.length c2, .slice A3 F.length c3] 28)) := (Below.refl _ _).alloc (Nat.le_refl _) _
  have bx := Bx3.new w (.slice A1 P.length c1) (.slice A2 W.length c2) (.slice A3 F.length c3) 28
  have hv := h.below HB1 (Nat.le_refl _)
  have l1 := h.l1
  have l3 := h.l3
  cases ht : treeB P W
  · rw [armB_1 ht]
    go_enter Try.func96, Try.ntmps96
    go_wp2_with fail
    refine (l2Good_is _ _ _ _ _ _ _ ht _ hv.r1 hv.r2 hv.l1 hv.l2).mono ?_
    rintro e w2 ⟨rfl, hb2⟩
    go_wp2
    go_ret
    exact ⟨rfl, bUp HB1 hb2 HB1.size⟩
  · have HT := Lib.hid (treeB_iff.1 ht)
    by_cases h9 : P.length ≤ 9
    · by_cases hl : F.length = P.length
      · have e1 : ((F.length : Int) != (P.length : Int)) = false := by simp [hl]
        have HL := Lib.hid hl
        clear hl
        by_cases hh : hgt P ≤ 4
        · go_enter Try.func96, Try.ntmps96
          go_wp2_with fail
          refine (l2Good_is _ _ _ _ _ _ _ ht _ hv.r1 hv.r2 hv.l1 hv.l2).mono ?_
          rintro e w2 ⟨rfl, hb2⟩
          have HB2 := bUp HB1 hb2 HB1.size
          have bx2 := bx.below hb2
          obtain ⟨f0, f1, f2, fz⟩ := id bx2
          go_wp2_with fail
          refine (l8Deepest_c _ _ _ _ _ _ _ (h.below HB2 (Nat.le_refl _)).r1 HT.out.par HT.out.n1 HT.out.n2).mono ?_
          rintro e w3 ⟨rfl, hb3⟩
          have HB3 := bUp HB2 hb3 HB2.size
          have h3w := (h.below HB3 (Nat.le_refl _)).r3
          have h2w := (h.below HB3 (Nat.le_refl _)).r2
          clear f0 f1 f2 fz
          obtain ⟨f0, f1, f2, fz⟩ := bx2.below hb3
          clear bx bx2 hb2 hb3 hv
          go_wp2
          go_loop [3] (fun i => ∃ k : Nat, k ≤ F.length ∧ i = .int .i64 k ∧ allB (F.take k) (-99) 99 = true ∧ ∀ x, x < k → endB P x = true → nth F x = 0) (fun i => F.length - (intOf i).toNat)
          case atStart => exact ⟨0, by omega, rfl, rfl, fun x hx => by omega⟩
          case round =>
            obtain ⟨k, hk, rfl, hall, hz⟩ := hrel
            have HA := Lib.hid hall
            have HZ := Lib.hid hz
            clear hall hz
            by_cases hlt : k < F.length
            · obtain ⟨a, rfl, hca⟩ := h3w.intN hlt
              have hkP : k < P.length := by have := HL.out; omega
              have hkW : k < W.length := by have := HT.out.len; omega
              obtain ⟨b, rfl, hcb⟩ := h2w.intN hkW
              cases hx : inB (nth F k) (-99) 99
              · have HN := Lib.hid (armB_5 (P := P) (W := W) (allB_no hlt hx))
                go_wp2_with fail
                refine (l1In_is _ _ _ _ hx _).mono ?_
                rintro e w' ⟨rfl, rfl⟩
                go_wp2
                go_ret
                exact ⟨by rw [HN.out] <;> rfl, HB3⟩
              · have HN := Lib.hid (allB_succ hlt HA.out hx)
                by_cases he : 0 < nth W k
                · have HE := Lib.hid ((HT.out.end_iff hkP).2 he)
                  by_cases h0 : nth F k = 0
                  · have e2 : (nth F k != 0) = false := by simp [h0]
                    have HZ2 : Hid (∀ x, x < k + 1 → endB P x = true → nth F x = 0) := Lib.hid fun x hx he => by
                      rcases Nat.lt_or_ge x k with h' | h'
                      · exact HZ.out x h' he
                      · rw [show x = k by omega]; exact h0
                    clear h0
                    go_wp2_with fail
                    refine (l1In_is _ _ _ _ hx _).mono ?_
                    rintro e w' ⟨rfl, rfl⟩
                    go_wp2
                    go_round
                    case rel => exact ⟨k + 1, by omega, by go_num, HN.out, HZ2.out⟩
                    case measure => simp [intOf] <;> omega
                  · have e2 : (nth F k != 0) = true := by simp [h0]
                    have HF := Lib.hid (armB_6 (W := W) (zB_no hkP HE.out h0))
                    clear h0
                    go_wp2_with fail
                    refine (l1In_is _ _ _ _ hx _).mono ?_
                    rintro e w' ⟨rfl, rfl⟩
                    go_wp2
                    go_ret
                    exact ⟨by rw [HF.out] <;> rfl, HB3⟩
                · have HZ2 : Hid (∀ x, x < k + 1 → endB P x = true → nth F x = 0) := Lib.hid fun x hx he2 => by
                    rcases Nat.lt_or_ge x k with h' | h'
                    · exact HZ.out x h' he2
                    · obtain rfl : x = k := by omega
                      exact absurd ((HT.out.end_iff hkP).1 he2) he
                  go_wp2_with fail
                  refine (l1In_is _ _ _ _ hx _).mono ?_
                  rintro e w' ⟨rfl, rfl⟩
                  go_wp2
                  go_round
                  case rel => exact ⟨k + 1, by omega, by go_num, HN.out, HZ2.out⟩
                  case measure => simp [intOf] <;> omega
            · have HF : Hid (armB P W F = true) := Lib.hid (armB_iff.2 ⟨HT.out, h9, hh, HL.out, allB_end hlt HA.out, zB_iff.2 fun x hx he => HZ.out x (by have := HL.out; omega) he⟩)
              go_wp2
              go_ret
              exact ⟨by rw [HF.out] <;> rfl, HB3⟩
        · rw [armB_3 hh]
          go_enter Try.func96, Try.ntmps96
          go_wp2_with fail
          refine (l2Good_is _ _ _ _ _ _ _ ht _ hv.r1 hv.r2 hv.l1 hv.l2).mono ?_
          rintro e w2 ⟨rfl, hb2⟩
          have HB2 := bUp HB1 hb2 HB1.size
          obtain ⟨f0, f1, f2, fz⟩ := bx.below hb2
          go_wp2_with fail
          refine (l8Deepest_c _ _ _ _ _ _ _ (h.below HB2 (Nat.le_refl _)).r1 HT.out.par HT.out.n1 HT.out.n2).mono ?_
          rintro e w3 ⟨rfl, hb3⟩
          go_wp2
          go_ret
          exact ⟨rfl, bUp HB2 hb3 HB2.size⟩
      · have e1 : ((F.length : Int) != (P.length : Int)) = true := by simp; omega
        rw [armB_4 hl]
        clear hl
        go_enter Try.func96, Try.ntmps96
        go_wp2_with fail
        refine (l2Good_is _ _ _ _ _ _ _ ht _ hv.r1 hv.r2 hv.l1 hv.l2).mono ?_
        rintro e w2 ⟨rfl, hb2⟩
        obtain ⟨f0, f1, f2, fz⟩ := bx.below hb2
        go_wp2
        go_ret
        exact ⟨rfl, bUp HB1 hb2 HB1.size⟩
    · rw [armB_2 h9]
      go_enter Try.func96, Try.ntmps96
      go_wp2_with fail
      refine (l2Good_is _ _ _ _ _ _ _ ht _ hv.r1 hv.r2 hv.l1 hv.l2).mono ?_
      rintro e w2 ⟨rfl, hb2⟩
      obtain ⟨f0, f1, f2, fz⟩ := bx.below hb2
      go_wp2
      go_ret
      exact ⟨rfl, bUp HB1 hb2 HB1.size⟩
theorem specArm_c (A1 : Option Addr) (P : List Int) (c1 : Nat) (A2 : Option Addr) (W : List Int) (c2 : Nat) (A3 : Option Addr) (F : List Int) (c3 : Nat) (w : World) (h : RdM w A1 P A2 W A3 F) :
    Calls Try.prog 41 #[mkV A1 P.length c1 A2 W.length c2 A3 F.length c3] w (Quietly w (.bool (armB P W F))) := by
  have HB1 : Below w.heap.size w (w.alloc (.cells #[.slice A1 P.length c1, .slice A2 W.length c2, .slice A3 F.length c3] 28)) := (Below.refl _ _).alloc (Nat.le_refl _) _
  have hv := h.below HB1 (Nat.le_refl _)
  go_enter Try.func41, Try.ntmps41
  go_wp2_with fail
  refine (l8Arm_c _ _ _ _ _ _ _ _ _ _ hv).mono ?_
  rintro e w2 ⟨rfl, hb2⟩
  go_wp2
  go_ret
  exact ⟨rfl, bUp HB1 hb2 HB1.size⟩
theorem implArm_is (A1 : Option Addr) (P : List Int) (c1 : Nat) (A2 : Option Addr) (W : List Int) (c2 : Nat) (A3 : Option Addr) (F : List Int) (c3 : Nat) (q : Bool) (hq : armB P W F = q) (w : World) (h : RdM w A1 P A2 W A3 F) :
    Calls Try.prog 40 #[mkV A1 P.length c1 A2 W.length c2 A3 F.length c3] w (Quietly w (.bool q)) := by
  rw [← hq]
  exact implArm_c A1 P c1 A2 W c2 A3 F c3 w h
theorem l8Arm_is (A1 : Option Addr) (P : List Int) (c1 : Nat) (A2 : Option Addr) (W : List Int) (c2 : Nat) (A3 : Option Addr) (F : List Int) (c3 : Nat) (q : Bool) (hq : armB P W F = q) (w : World) (h : RdM w A1 P A2 W A3 F) :
    Calls Try.prog 96 #[mkV A1 P.length c1 A2 W.length c2 A3 F.length c3] w (Quietly w (.bool q)) := by
  rw [← hq]
  exact l8Arm_c A1 P c1 A2 W c2 A3 F c3 w h

end Go.Proofs.Ytfobjkdkjlbkfaa
