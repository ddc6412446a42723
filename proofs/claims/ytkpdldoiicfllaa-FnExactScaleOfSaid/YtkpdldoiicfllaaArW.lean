/- The depths of a tree and the height of an arm: both packages' walks. -/
import Derived.Test.YtkpdldoiicfllaaArL
import Derived.Test.YtkpdldoiicfllaaTrY
namespace Go.Proofs.Ytkpdldoiicfllaa
open Go.RowKit

/-- What one step of the depths reads. -/
theorem dep_facts {P : List Int} (hp : ParOk P) (hn : P.length ≤ 24) {x : Nat} (hx : 1 ≤ x) (hlt : x < P.length) : ∃ p : Nat, p < x ∧ nth P x = (p : Int) ∧ depL P x = depL P (x - 1) ++ [nth (depL P (x - 1)) p + 1] ∧ 0 ≤ nth (depL P (x - 1)) p ∧ nth (depL P (x - 1)) p ≤ 24 := by
  have hup := hp.up x hx hlt
  obtain ⟨p, hpp⟩ : ∃ p : Nat, nth P x = (p : Int) := ⟨(nth P x).toNat, by omega⟩
  have := depL_bd P (x - 1) p
  exact ⟨p, by omega, hpp, dep_step hx hpp, by omega, by omega⟩
set_option maxHeartbeats 1000000 in
theorem depths_c (A1 : Option Addr) (P : List Int) (c1 : Nat) (A2 : Option Addr) (n2 c2 : Nat) (w : World) (h1 : Rd w A1 (ints P)) (hp : ParOk P) (hn1 : 1 ≤ P.length) (hn : P.length ≤ 24) :
    Calls Try.prog 48 #[trV A1 P.length c1 A2 n2 c2] w (Row w (dep P)) := by
  have HB1 : Below w.heap.size w (w.alloc (.cells #[.slice A1 P.length c1, .slice A2 n2 c2] 38)) := (Below.refl _ _).alloc (Nat.le_refl _) _
  have bx := Bx.new w (.slice A1 P.length c1) (.slice A2 n2 c2) 38
  go_enter Try.func48, Try.ntmps48
  go_wp2_with (at_make; refine wp_make_intsH _ (w.heap.size + 1) (by simp) rfl _ _ rfl _ _ _ _ P.length rfl rfl rfl rfl (by omega) ?_; intro w1 ho1 hb1)
  have HB2 := bUp HB1 hb1 HB1.size
  have bx1 := bx.below hb1
  have e0 : List.replicate P.length (0 : Int) = depL P (1 - 1) ++ List.replicate (P.length - 1) 0 := by
    obtain ⟨m, hm⟩ : ∃ m, P.length = m + 1 := ⟨P.length - 1, by omega⟩
    rw [hm, List.replicate_succ]
    rfl
  rw [e0] at ho1
  clear bx hb1 HB1 e0
  go_loopw [4] (fun i wr => ∃ x : Nat, 1 ≤ x ∧ x ≤ P.length ∧ i = .int .i64 (x : Int) ∧ Own wr (w.heap.size + 1) (some ⟨w.heap.size + 1, 0, none⟩) P.length (depL P (x - 1) ++ List.replicate (P.length - x) 0) ∧
      Bx wr w.heap.size (.slice A1 P.length c1) (.slice A2 n2 c2) ∧ Below w.heap.size w wr) (fun i _ => P.length - (intOf i).toNat)
  case atStart => exact ⟨1, by omega, by omega, rfl, ho1, bx1, HB2⟩
  case round =>
    obtain ⟨x, hx1, hk, rfl, ho, hx, hB⟩ := hrel
    clear ho1 bx1 HB2
    have HLW := Lib.hid (dep_len (P := P) hx1)
    have hx' := hx
    obtain ⟨f0, f1, f2, f3, f4⟩ := hx
    by_cases hlt : x < P.length
    · obtain ⟨p, hpx, hpp, hw, b1, b2⟩ := dep_facts hp hn hx1 hlt
      have HW := Lib.hid hw
      obtain ⟨a1, rfl, q1⟩ := (h1.below hB (Nat.le_refl _)).intN hlt
      rw [hpp] at q1
      have qo := ho.cellN (k := p) (by rw [List.length_append, HLW.out]; omega)
      rw [nth_app_l (by rw [HLW.out]; exact hpx)] at qo
      obtain ⟨ux, qx⟩ := ho.some_ (k := x) (by rw [List.length_append, HLW.out]; simp; omega)
      have hfx := ho.frozen x
      have hst := ho.set x (nth (depL P (x - 1)) p + 1)
      rw [set_fill _ _ _ _ HLW.out.symm (by omega), ← HW.out] at hst
      clear hpp hw
      go_wp2
      go_roundw
      case rel => exact ⟨x + 1, by omega, by omega, by go_num, by rw [Nat.add_sub_cancel, Nat.sub_add_eq]; exact hst.1, hx'.grown hst.2 (by simp), hB.grown hst.2 hB.size (fun k hk => by cases hk; omega)⟩
      case measure => simp [intOf] <;> omega
    · have hmn : x = P.length := by omega
      subst hmn
      rw [Nat.sub_self, List.replicate_zero, List.append_nil] at ho
      have HD := Lib.hid (dep_length (P := P) hn1)
      go_wp2
      go_ret
      exact ⟨_, _, by rw [HD.out] <;> rfl, ho.mono (by omega), hB⟩
set_option maxHeartbeats 1000000 in
theorem l2Depths_c (A1 : Option Addr) (P : List Int) (c1 : Nat) (A2 : Option Addr) (n2 c2 : Nat) (w : World) (h1 : Rd w A1 (ints P)) (hp : ParOk P) (hn1 : 1 ≤ P.length) (hn : P.length ≤ 24) :
    Calls Try.prog 41 #[trV A1 P.length c1 A2 n2 c2] w (Row w (dep P)) := by
  have HB1 : Below w.heap.size w ((w.alloc (.cells #[.slice A1 P.length c1, .slice A2 n2 c2] 38)).alloc (.cells #[.int .i64 0] 3)) := ((Below.refl _ _).alloc (Nat.le_refl _) _).alloc (by simp) _
  have bx := (Bx.new w (.slice A1 P.length c1) (.slice A2 n2 c2) 38).alloc (.cells #[.int .i64 0] 3)
  have O0 := Own.lit (w.alloc (.cells #[.slice A1 P.length c1, .slice A2 n2 c2] 38)) [0] (by simp)
  rw [World.size_alloc] at O0
  go_enter Try.func41, Try.ntmps41
  go_wp2
  go_loopw [3, 4] (fun t i wr => ∃ x : Nat, ∃ A c, 1 ≤ x ∧ x ≤ P.length ∧ i = .int .i64 (x : Int) ∧ t = .slice A x c ∧ Own wr (w.heap.size + 1) A c (depL P (x - 1)) ∧ Bx wr w.heap.size (.slice A1 P.length c1) (.slice A2 n2 c2) ∧ Below w.heap.size w wr) (fun _ i _ => P.length - (intOf i).toNat)
  case atStart => exact ⟨1, some ⟨w.heap.size + 1, 0, none⟩, 1, by omega, by omega, rfl, rfl, O0, bx, HB1⟩
  case round =>
    obtain ⟨wo, rfl⟩ : ∃ wo : World, wo = wr := ⟨_, rfl⟩
    obtain ⟨x, A, c, hx1, hk, rfl, rfl, ho, hx, hB⟩ := hrel
    clear HB1 O0 bx
    have HLW := Lib.hid (dep_len (P := P) hx1)
    have hx' := hx
    obtain ⟨f0, f1, f2, f3, f4⟩ := hx
    by_cases hlt : x < P.length
    · obtain ⟨p, hpx, hpp, hw, b1, b2⟩ := dep_facts hp hn hx1 hlt
      have HW := Lib.hid hw
      obtain ⟨a1, rfl, q1⟩ := (h1.below hB (Nat.le_refl _)).intN hlt
      rw [hpp] at q1
      obtain ⟨ao, rfl, qo⟩ := ho.rd.intN (k := p) (by rw [HLW.out]; exact hpx)
      clear hpp hw
      go_wp2_with (at_builtin; refine wp_append1 _ _ _ rfl _ _ rfl (w.heap.size + 1) (some ao) x c (depL P (x - 1)) rfl (by rw [HLW.out]) ho rfl (by rw [HLW.out]; omega) (by omega) ?_; rw [← HW.out]; intro A2 c2 w2 ho2 hg2 hb2; have HB2 := hB.grown hg2 hB.size (fun k hk => by have := ho.ge k hk; omega); have hx2 := hx'.grown hg2 (row_ne ho (by omega)); clear hg2 hb2)
      go_roundw
      case rel => exact ⟨x + 1, A2, c2, by omega, by omega, by go_num, rfl, by rw [Nat.add_sub_cancel]; exact ho2, hx2, HB2⟩
      case measure => simp [intOf] <;> omega
    · have hmn : x = P.length := by omega
      subst hmn
      have HD := Lib.hid (dep_length (P := P) hn1)
      go_wp2
      go_ret
      exact ⟨A, c, by rw [HD.out] <;> rfl, ho.mono (by omega), hB⟩

theorem slMax_c (A : Option Addr) (xs : List Int) (c : Nat) (w : World) (ha : Rd w A (ints xs)) (h1 : 1 ≤ xs.length) (hl : xs.length ≤ 1000) (hb : ∀ i, 0 ≤ nth xs i ∧ nth xs i ≤ 1000000) :
    Calls Try.prog 67 #[.slice A xs.length c] w fun e w' => e = .returned (.int .i64 (mxTo xs xs.length)) ∧ w = w' := by
  obtain ⟨a, rfl, hc0⟩ := ha.intN (k := 0) (by omega)
  rw [add_nil] at hc0
  have hb0 := hb 0
  have e0 : mxTo xs 1 = nth xs 0 := by
    rw [mxTo, mxTo]
    unfold mxI
    split <;> omega
  have HE := Lib.hid e0
  clear e0
  go_enter Try.func67, Try.ntmps67
  go_wp2
  go_loop [3, 4] (fun m i => ∃ k : Nat, 1 ≤ k ∧ k ≤ xs.length ∧ i = .int .i64 k ∧ m = .int .i64 (mxTo xs k)) (fun _ i => xs.length - (intOf i).toNat)
  case atStart => exact ⟨1, by omega, h1, rfl, by rw [HE.out]⟩
  case round =>
    obtain ⟨k, hk1, hk, rfl, rfl⟩ := hrel
    by_cases hlt : k < xs.length
    · obtain ⟨a', he, hca⟩ := ha.intN hlt
      obtain rfl : a = a' := by injection he
      have hx := hb k
      have hm := mxTo_bd hb (by omega) k
      have HS : Hid (mxTo xs (k + 1) = mxI (mxTo xs k) (nth xs k)) := Lib.hid rfl
      generalize nth xs k = x at *
      generalize hv : mxTo xs k = v at *
      by_cases hxv : x < v
      · have HS2 : Hid (mxTo xs (k + 1) = v) := Lib.hid (by rw [HS.out, mxI_l hxv])
        clear hv
        go_wp2
        all_goals
          go_round
          case rel => exact ⟨k + 1, by omega, by omega, by go_num, by rw [HS2.out]⟩
          case measure => simp [intOf] <;> omega
      · have HS2 : Hid (mxTo xs (k + 1) = x) := Lib.hid (by rw [HS.out, mxI_r hxv])
        clear hv
        by_cases hvx : v < x
        · go_wp2
          all_goals
            go_round
            case rel => exact ⟨k + 1, by omega, by omega, by go_num, by rw [HS2.out]⟩
            case measure => simp [intOf] <;> omega
        · obtain rfl : x = v := by omega
          clear hxv hvx
          go_wp2
          all_goals
            go_round
            case rel => exact ⟨k + 1, by omega, by omega, by go_num, by rw [HS2.out]⟩
            case measure => simp [intOf] <;> omega
    · have hkn : k = xs.length := by omega
      subst hkn
      go_wp2
      go_ret
      exact ⟨rfl, rfl⟩
theorem height_c (A1 : Option Addr) (P : List Int) (c1 : Nat) (A2 : Option Addr) (n2 c2 : Nat) (A3 : Option Addr) (n3 c3 : Nat) (w : World) (h1 : Rd w A1 (ints P)) (hp : ParOk P) (hn1 : 1 ≤ P.length) (hn : P.length ≤ 24) :
    Calls Try.prog 47 #[mkV A1 P.length c1 A2 n2 c2 A3 n3 c3] w (Quietly w (.int .i64 (hgt P))) := by
  have HB1 : Below w.heap.size w (w.alloc (.cells #[.slice A1 P.length c1, .slice A2 n2 c2, .slice A3 n3 c3] 40)) := (Below.refl _ _).alloc (Nat.le_refl _) _
  have HD := Lib.hid (dep_length (P := P) hn1)
  go_enter Try.func47, Try.ntmps47
  go_wp2_with fail
  refine (depths_c A1 P c1 A2 n2 c2 _ (h1.below HB1 (Nat.le_refl _)) hp hn1 hn).mono ?_
  rintro e w2 ⟨A, c, rfl, ho, hb2⟩
  have HB2 := bUp HB1 hb2 HB1.size
  go_wp2_with fail
  refine (slMax_c A (dep P) c _ ho.rd (by rw [HD.out]; exact hn1) (by rw [HD.out]; omega) (fun i => by have := dep_bd P i; omega)).mono ?_
  rintro e w3 ⟨rfl, rfl⟩
  rw [HD.out]
  go_wp2
  go_ret
  exact ⟨rfl, HB2⟩
theorem l8Deepest_c (A1 : Option Addr) (P : List Int) (c1 : Nat) (A2 : Option Addr) (n2 c2 : Nat) (w : World) (h1 : Rd w A1 (ints P)) (hp : ParOk P) (hn1 : 1 ≤ P.length) (hn : P.length ≤ 24) :
    Calls Try.prog 38 #[trV A1 P.length c1 A2 n2 c2] w (Quietly w (.int .i64 (hgt P))) := by
  have HB1 : Below w.heap.size w (w.alloc (.cells #[.slice A1 P.length c1, .slice A2 n2 c2] 38)) := (Below.refl _ _).alloc (Nat.le_refl _) _
  have HD := Lib.hid (dep_length (P := P) hn1)
  go_enter Try.func38, Try.ntmps38
  go_wp2_with fail
  refine (l2Depths_c A1 P c1 A2 n2 c2 _ (h1.below HB1 (Nat.le_refl _)) hp hn1 hn).mono ?_
  rintro e w2 ⟨A, c, rfl, ho, hb2⟩
  have HB2 := bUp HB1 hb2 HB1.size
  have hr := ho.rd
  rw [HD.out]
  clear ho hb2
  go_wp2
  go_loop [3, 5] (fun m i => ∃ k : Nat, k ≤ P.length ∧ i = .int .i64 k ∧ m = .int .i64 (mxTo (dep P) k)) (fun _ i => P.length - (intOf i).toNat)
  case atStart => exact ⟨0, by omega, rfl, rfl⟩
  case round =>
    obtain ⟨k, hk, rfl, rfl⟩ := hrel
    by_cases hlt : k < P.length
    · obtain ⟨a, rfl, hca⟩ := hr.intN (k := k) (by rw [HD.out]; exact hlt)
      have HS : Hid (mxTo (dep P) (k + 1) = mxI (mxTo (dep P) k) (nth (dep P) k)) := Lib.hid rfl
      go_wp2_with fail
      refine (l1Most_is _ _ _ HS.out.symm _).mono ?_
      rintro e w' ⟨rfl, rfl⟩
      go_wp2
      go_round
      case rel => exact ⟨k + 1, by omega, by go_num, rfl⟩
      case measure => simp [intOf] <;> omega
    · have hkn : k = P.length := by omega
      subst hkn
      go_wp2
      go_ret
      exact ⟨rfl, HB2⟩
end Go.Proofs.Ytkpdldoiicfllaa
