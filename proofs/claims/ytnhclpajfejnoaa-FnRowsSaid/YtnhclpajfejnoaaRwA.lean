/- Rows: RowValue and RowHolding, both walks (merged of RwI RwS RwB RwH). -/
import Derived.Test.YtnhclpajfejnoaaRwL
import Derived.Test.YtnhclpajfejnoaaFrac
import Derived.Test.YtnhclpajfejnoaaLists
import Derived.Test.YtnhclpajfejnoaaCopy
import Derived.Test.YtnhclpajfejnoaaButA
namespace Go.Proofs.Ytnhclpajfejnoaa
open Go.RowKit

/-- The first j values with k steps done. -/
def rvR (u d : Int) (xs : List Int) (k j : Nat) : List Int := (List.range j).map (rvA u d xs k)
theorem rvR_len (u d : Int) (xs : List Int) (k j : Nat) : (rvR u d xs k j).length = j := by simp [rvR]
theorem rvR_nth {u d : Int} {xs : List Int} {k j i : Nat} (h : i < j) : nth (rvR u d xs k j) i = rvA u d xs k i := by simp [rvR, nth, h]
theorem rvR_succ (u d : Int) (xs : List Int) (k j : Nat) : rvR u d xs k (j + 1) = rvR u d xs k j ++ [rvA u d xs k j] := by simp [rvR, List.range_succ]
theorem rvR_zero {u d : Int} {xs : List Int} : rvR u d xs 0 xs.length = xs := ext_nth (by rw [rvR_len]) fun i hi => by
  rw [rvR_len] at hi
  rw [rvR_nth hi]
  rfl
/-- A slice's length. -/
def lnV : Value → Nat
  | .slice _ n _ => n
  | _ => 0
theorem mulB {x y A B C : Int} (hx : -A ≤ x ∧ x ≤ A) (hy : 0 ≤ y ∧ y ≤ B) (hA : 0 ≤ A) (hC : A * B ≤ C) : -C ≤ x * y ∧ x * y ≤ C := by
  have h1 : x * y ≤ A * y := Int.mul_le_mul_of_nonneg_right hx.2 hy.1
  have h2 : A * y ≤ A * B := Int.mul_le_mul_of_nonneg_left hy.2 hA
  have h3 : -A * y ≤ x * y := Int.mul_le_mul_of_nonneg_right hx.1 hy.1
  rw [Int.neg_mul] at h3
  omega

set_option maxRecDepth 20000 in
set_option maxHeartbeats 4000000 in
theorem isRow_c (n u d : Int) (w : World) : Calls Try.prog 108 #[.int .i64 n, .int .i64 u, .int .i64 d] w fun e w' => e = .returned (.bool (rowB n u d)) ∧ w = w' := by
  unfold rowB
  cases h1 : inB n 0 4
  · have C := within_c n 0 4 w
    rw [h1] at C
    clear h1
    go_enter Try.func108, Try.ntmps108
    go_wp2_with fail
    refine C.mono ?_
    rintro e w' ⟨rfl, rfl⟩
    go_wp2_with fail
    go_ret
    exact ⟨rfl, rfl⟩
  · have C := within_c n 0 4 w
    rw [h1] at C
    clear h1
    cases h2 : inB u 1 9
    · have C2 := within_c u 1 9 w
      rw [h2] at C2
      clear h2
      go_enter Try.func108, Try.ntmps108
      go_wp2_with fail
      refine C.mono ?_
      rintro e w' ⟨rfl, rfl⟩
      go_wp2_with fail
      refine C2.mono ?_
      rintro e w' ⟨rfl, rfl⟩
      go_wp2_with fail
      go_ret
      exact ⟨rfl, rfl⟩
    · have C2 := within_c u 1 9 w
      rw [h2] at C2
      clear h2
      have C3 := within_c d 1 9 w
      generalize inB d 1 9 = q at *
      go_enter Try.func108, Try.ntmps108
      go_wp2_with fail
      refine C.mono ?_
      rintro e w' ⟨rfl, rfl⟩
      go_wp2_with fail
      refine C2.mono ?_
      rintro e w' ⟨rfl, rfl⟩
      go_wp2_with fail
      refine C3.mono ?_
      rintro e w' ⟨rfl, rfl⟩
      go_wp2_with fail
      go_ret
      exact ⟨by simp, rfl⟩
theorem rwB_1 {n u d : Int} {xs : List Int} (h : rowB n u d = false) : rwB n u d xs = false := by simp [rwB, h]
theorem rwB_2 {n u d : Int} {xs : List Int} (h : ¬ (xs.length : Int) = n + 1) : rwB n u d xs = false := by simp [rwB, h]
theorem rwB_3 {n u d : Int} {xs : List Int} {q : Bool} (h1 : rowB n u d = true) (h2 : (xs.length : Int) = n + 1) (h3 : allB xs (-999) 999 = q) : rwB n u d xs = q := by simp [rwB, h1, h2, h3]
theorem row_n {n u d : Int} (h : rowB n u d = true) : 0 ≤ n ∧ n ≤ 4 := by
  have := rowB_iff.1 h
  have := this.2.n4
  omega
set_option maxRecDepth 20000 in
set_option maxHeartbeats 4000000 in
theorem isRowWith_c (n u d : Int) (A : Option Addr) (xs : List Int) (c : Nat) (w : World) (ha : Rd w A (ints xs)) (hl : xs.length ≤ 16777216) :
    Calls Try.prog 98 #[.int .i64 n, .int .i64 u, .int .i64 d, .slice A xs.length c] w fun e w' => e = .returned (.bool (rwB n u d xs)) ∧ w = w' := by
  have C := isRow_c n u d w
  cases h1 : rowB n u d
  · rw [rwB_1 h1]
    rw [h1] at C
    clear h1
    go_enter Try.func98, Try.ntmps98
    go_wp2_with fail
    refine C.mono ?_
    rintro e w' ⟨rfl, rfl⟩
    go_wp2_with fail
    go_ret
    exact ⟨rfl, rfl⟩
  · rw [h1] at C
    have hn := row_n h1
    by_cases h2 : (xs.length : Int) = n + 1
    · have HQ := rwB_3 h1 h2 rfl
      rw [HQ]
      have HC := Lib.hid h2
      have e1 : ((xs.length : Int) == n + 1) = true := by rw [beq_iff_eq]; exact h2
      have C2 := allWithin_c A xs c (-999) 999 w ha hl
      generalize allB xs (-999) 999 = q at *
      clear h1 HQ h2
      go_enter Try.func98, Try.ntmps98
      go_wp2_with fail
      refine C.mono ?_
      rintro e w' ⟨rfl, rfl⟩
      go_wp2_with fail
      refine C2.mono ?_
      rintro e w' ⟨rfl, rfl⟩
      go_wp2_with fail
      go_ret
      exact ⟨rfl, rfl⟩
    · rw [rwB_2 h2]
      clear h1
      go_enter Try.func98, Try.ntmps98
      go_wp2_with fail
      refine C.mono ?_
      rintro e w' ⟨rfl, rfl⟩
      go_wp2_with fail
      go_ret
      exact ⟨rfl, rfl⟩
set_option maxRecDepth 20000 in
set_option maxHeartbeats 4000000 in
theorem rowValue_c (n : Nat) (u d : Int) (A : Option Addr) (xs : List Int) (c : Nat) (w : World) (ha : Rd w A (ints xs)) (h : RowW n u d xs) :
    Calls Try.prog 100 #[.int .i64 u, .int .i64 d, .slice A (n + 1) c] w (Quietly w (.int .i64 (rvA u d xs n 0))) := by
  have hlen := h.len
  have h4 := h.n4
  have hu : 0 ≤ u ∧ u ≤ 9 := ⟨by have := h.u1; omega, h.u9⟩
  have hd : 0 ≤ d ∧ d ≤ 9 := ⟨by have := h.d1; omega, h.d9⟩
  have C := copied_c A xs c w ha (by omega)
  rw [hlen] at C
  have HH := Lib.hid h
  have HLn := Lib.hid hlen
  clear h hlen
  go_enter Try.func100, Try.ntmps100
  go_wp2_with fail
  refine C.mono ?_
  rintro e w1 ⟨A1, c1, rfl, o1, b1⟩
  rw [HLn.out]
  have z1 : rvR u d xs 0 (n + 1) = xs := by rw [← HLn.out]; exact rvR_zero
  rw [← z1] at o1
  clear C z1 ha
  go_wp2_with fail
  go_loopw [7] (fun t wr => ∃ (k m : Nat) (A' : Option Addr) (c' : Nat), k + m = n ∧ t = .slice A' (m + 1) c' ∧ Own wr w.heap.size A' c' (rvR u d xs k (m + 1)) ∧ Below w.heap.size w wr) (fun t _ => lnV t)
  case atStart => exact ⟨0, n, A1, c1, by omega, rfl, o1, b1⟩
  case round =>
    obtain ⟨wo, rfl⟩ : ∃ wo : World, wo = wr := ⟨_, rfl⟩
    obtain ⟨k, m, A', c', hkm, rfl, ho, hb⟩ := hrel
    have HKM := Lib.hid hkm
    clear o1 b1 hkm
    obtain ⟨g, rfl, hg1, hg2⟩ := ho.form (by rw [rvR_len]; omega)
    cases m with
    | zero =>
      have q := ho.cellN (k := 0) (by rw [rvR_len]; omega)
      rw [rvR_nth (by omega)] at q
      have e0 : k = n := by have := HKM.out; omega
      subst e0
      go_wp2_with fail
      go_ret
      exact ⟨rfl, hb⟩
    | succ m =>
      have hm4 : m ≤ 4 := by have := HKM.out; omega
      have o0 := Own.lit0 wo wo.heap.size rfl
      have hb0 : Below wo.heap.size wo (wo.alloc (.cells #[] 3)) := (Below.refl _ _).alloc (Nat.le_refl _) _
      go_wp2_with fail
      go_loopw [8, 19] (fun t q wr => ∃ (i : Nat) (A2 : Option Addr) (c2 : Nat), i ≤ m + 1 ∧ q = .int .i64 (i : Int) ∧ t = .slice A2 i c2 ∧ Own wr wo.heap.size A2 c2 (rvR u d xs (k + 1) i) ∧ Below wo.heap.size wo wr) (fun _ q _ => m + 1 - (intOf q).toNat)
      case atStart => exact ⟨0, _, _, by omega, rfl, rfl, o0, hb0⟩
      case round =>
        obtain ⟨v, rfl⟩ : ∃ v : World, v = wr := ⟨_, rfl⟩
        obtain ⟨i, A2, c2, hi, rfl, rfl, hoi, hbi⟩ := hrel
        clear o0 hb0
        by_cases hlt : i < m + 1
        · have q1 := (ho.below hbi).cellN (k := i + 1) (by rw [rvR_len]; omega)
          have q2 := (ho.below hbi).cellN (k := i) (by rw [rvR_len]; omega)
          rw [rvR_nth (by omega)] at q1 q2
          have bx := HH.out.rv (k := k) (i := i + 1) (by have := HKM.out; omega)
          have by_ := HH.out.rv (k := k) (i := i) (by have := HKM.out; omega)
          have HZ : Hid (rvA u d xs (k + 1) i = rvA u d xs k (i + 1) * d + rvA u d xs k i * u) := Lib.hid (by rw [rvA, Int.mul_comm d, Int.mul_comm u])
          have hkm4 := HKM.out
          generalize rvA u d xs k (i + 1) = x at *
          generalize rvA u d xs k i = y at *
          obtain ⟨j, hj⟩ : ∃ j : Nat, j = i + 1 := ⟨_, rfl⟩
          have hi2 : (i : Int) < (m : Int) + 1 + 1 := by omega
          have hj3 : (j : Int) < (m : Int) + 1 + 1 := by omega
          rw [← hj] at q1
          have ej : IntKind.i64.wrap ((i : Int) + 1) = (j : Int) := by rw [hj]; exact IntWalk.i64_in _ (by omega)
          have HJ := Lib.hid hj
          clear hj hkm4
          have m1 := mulB (C := 943839216) bx hd (by decide) (by decide)
          have m2 := mulB (C := 943839216) by_ hu (by decide) (by decide)
          have f1 : IntKind.i64.wrap (x * d) = x * d := IntWalk.i64_in _ (by omega)
          have f2 : IntKind.i64.wrap (y * u) = y * u := IntWalk.i64_in _ (by omega)
          obtain ⟨z, hz⟩ : ∃ z, z = x * d + y * u := ⟨_, rfl⟩
          rw [← hz] at HZ
          have f3 : IntKind.i64.wrap (x * d + y * u) = z := by rw [hz]; exact IntWalk.i64_in _ (by omega)
          clear hz
          go_upto_region 7 with fail
          have hd1 : Below v.heap.size v v.drew := Below.drew (Below.refl _ _)
          have SK1 : Hid (∀ w', Below v.heap.size v w' → w'.cell? ⟨g, j, none⟩ = some (.int .i64 x) ∧ w'.cell? ⟨g, i, none⟩ = some (.int .i64 y)) := Lib.hid fun w' HV => ⟨(HV.cell (cell_lt q1)).trans q1, (HV.cell (cell_lt q2)).trans q2⟩
          clear q1 q2
          have hS1_0 := SK1.out _ hd1
          refine tamed_region (S := fun w' => w'.cell? ⟨g, j, none⟩ = some (.int .i64 x) ∧ w'.cell? ⟨g, i, none⟩ = some (.int .i64 y)) (fun k => k == 16 || k == 17) (by kernel_rfl) ?_
          refine tame0 (k := 0) ?_ rfl (by kernel_rfl) (by kernel_rfl) (by kernel_rfl) (fun _ _ _ h => h) (by kernel_rfl) (fun v => ?_) ?_
          rotate_left
          · (go_simp; all_goals rfl)
          simp only [Act.put, List.setIfInBounds_toArray]
          refine tame0 (k := 1) ?_ rfl (by kernel_rfl) (by kernel_rfl) (by kernel_rfl) (fun _ _ _ h => h) (by kernel_rfl) (fun v => ?_) ?_
          rotate_left
          · (go_simp; all_goals rfl)
          simp only [Act.put]
          refine tame0 (k := 2) ?_ rfl (by kernel_rfl) (by kernel_rfl) (by kernel_rfl) (fun _ _ _ h => h) (by kernel_rfl) (fun v => ?_) ?_
          rotate_left
          · (go_simp; all_goals rfl)
          simp only [Act.put]
          refine tame0 (k := 3) ?_ rfl (by kernel_rfl) (by kernel_rfl) (by kernel_rfl) (fun _ _ _ h => h) (by kernel_rfl) (fun v => ?_) ?_
          rotate_left
          · (go_simp; all_goals rfl)
          simp only [Act.put]
          refine tame0 (k := 4) ?_ rfl (by kernel_rfl) (by kernel_rfl) (by kernel_rfl) (fun _ _ _ h => h) (by kernel_rfl) (fun v => ?_) ?_
          rotate_left
          · (go_simp; all_goals rfl)
          simp only [Act.put]
          refine tameT (k := 5) ?_ rfl (by kernel_rfl) (by kernel_rfl) (by kernel_rfl) (by kernel_rfl) (by kernel_rfl) (fun _ _ _ h => h) (by kernel_rfl) hS1_0 (fun v hv => ?_) ?_
          rotate_left
          · (obtain ⟨k1, k2⟩ := hv; go_simp; all_goals rfl)
          simp only [Act.put]
          refine tame0 (k := 6) ?_ rfl (by kernel_rfl) (by kernel_rfl) (by kernel_rfl) (fun _ _ _ h => h) (by kernel_rfl) (fun v => ?_) ?_
          rotate_left
          · (go_simp; all_goals rfl)
          simp only [Act.put]
          refine tame0 (k := 7) ?_ rfl (by kernel_rfl) (by kernel_rfl) (by kernel_rfl) (fun _ _ _ h => h) (by kernel_rfl) (fun v => ?_) ?_
          rotate_left
          · (go_simp; all_goals rfl)
          simp only [Act.put]
          refine tame0 (k := 8) ?_ rfl (by kernel_rfl) (by kernel_rfl) (by kernel_rfl) (fun _ _ _ h => h) (by kernel_rfl) (fun v => ?_) ?_
          rotate_left
          · (go_simp; all_goals rfl)
          simp only [Act.put]
          refine tame0 (k := 9) ?_ rfl (by kernel_rfl) (by kernel_rfl) (by kernel_rfl) (fun _ _ _ h => h) (by kernel_rfl) (fun v => ?_) ?_
          rotate_left
          · (go_simp; all_goals rfl)
          simp only [Act.put]
          refine tame0 (k := 10) ?_ rfl (by kernel_rfl) (by kernel_rfl) (by kernel_rfl) (fun _ _ _ h => h) (by kernel_rfl) (fun v => ?_) ?_
          rotate_left
          · (go_simp; all_goals rfl)
          simp only [Act.put]
          refine tameT (k := 11) ?_ rfl (by kernel_rfl) (by kernel_rfl) (by kernel_rfl) (by kernel_rfl) (by kernel_rfl) (fun _ _ _ h => h) (by kernel_rfl) hS1_0 (fun v hv => ?_) ?_
          rotate_left
          · (obtain ⟨k1, k2⟩ := hv; go_simp; all_goals rfl)
          simp only [Act.put]
          refine tame0 (k := 12) ?_ rfl (by kernel_rfl) (by kernel_rfl) (by kernel_rfl) (fun _ _ _ h => h) (by kernel_rfl) (fun v => ?_) ?_
          rotate_left
          · (go_simp; all_goals rfl)
          simp only [Act.put]
          refine tame0 (k := 13) ?_ rfl (by kernel_rfl) (by kernel_rfl) (by kernel_rfl) (fun _ _ _ h => h) (by kernel_rfl) (fun v => ?_) ?_
          rotate_left
          · (go_simp; all_goals rfl)
          simp only [Act.put]
          refine tame0 (k := 14) ?_ rfl (by kernel_rfl) (by kernel_rfl) (by kernel_rfl) (fun _ _ _ h => h) (by kernel_rfl) (fun v => ?_) ?_
          rotate_left
          · (go_simp; all_goals rfl)
          simp only [Act.put]
          have Hal : Below v.heap.size v (v.alloc (.cells #[.int .i64 z] 3)) := (Below.refl _ _).alloc (Nat.le_refl _) _
          refine tame_one (k := 15) (by kernel_rfl) rfl (by kernel_rfl) ?_
          go_simp
          refine ⟨SK1.out _ Hal, ?_⟩
          refine tame_one (k := 16) (by kernel_rfl) rfl (by kernel_rfl) ?_
          refine op_append_ints _ (.tmp 22) (.tmp 37) rfl wo.heap.size A2 i c2 (rvR u d xs (k + 1) i) rfl (rvR_len _ _ _ _ _).symm (hoi.alloc _).drew (some ⟨v.heap.size, 0, none⟩) 1 1 [z] rfl rfl (Rd.box v _ _).drew (by rw [rvR_len]; simp; omega) (by have := hbi.size; simp; omega) ?_
          intro A5 c5 w5 o5 g5 b5
          have gw : v.grownBy w5 (blk A2) := grown_of_alloc_drew g5
          rw [← HZ.out, ← rvR_succ] at o5
          have HB5 := Lib.hid (hbi.grown gw hbi.size hoi.ge)
          refine ⟨fun h => absurd h (by decide), ?_⟩
          simp only [Act.put]
          refine tame_one (k := 17) (by kernel_rfl) rfl (by kernel_rfl) ?_
          go_simp
          try (refine ⟨fun h => absurd h (by decide), ?_⟩)
          refine tame_end (by kernel_rfl) ?_
          obtain rfl := HJ.out
          go_wp2_with fail
          go_roundw
          case rel =>
            refine ⟨_, _, _, ?_, rfl, rfl, rfl⟩
            exact ⟨i + 1, by omega, by go_num, A5, c5, rfl, o5, HB5.out⟩
          case measure => simp [intOf] <;> omega
        · obtain rfl : i = m + 1 := by omega
          go_wp2_with fail
          go_roundw
          case rel => exact ⟨k + 1, m, A2, c2, by have := HKM.out; omega, rfl, hoi.mono hb.size, hb.trans (hbi.mono hb.size)⟩
          case measure => simp [lnV] <;> omega

set_option maxRecDepth 20000 in
set_option maxHeartbeats 4000000 in
theorem l6Power_c (a : Int) (k : Nat) (hk : k ≤ 4) (h0 : 0 ≤ a) (h18 : a ≤ 18) (w : World) :
    Calls Try.prog 107 #[.int .i64 a, .int .i64 (k : Int)] w fun e w' => e = .returned (.int .i64 (pw a k)) ∧ w = w' := by
  have hb : ∀ j, j ≤ k → pw a j ≤ 104976 := fun j hj => pw_18 h0 h18 (by omega)
  go_enter Try.func107, Try.ntmps107
  go_wp2
  go_loop [5, 6] (fun o i => ∃ j : Nat, j ≤ k ∧ i = .int .i64 j ∧ o = .int .i64 (pw a j)) (fun _ i => k - (intOf i).toNat)
  case atStart => exact ⟨0, by omega, rfl, rfl⟩
  case round =>
    obtain ⟨j, hj, rfl, rfl⟩ := hrel
    by_cases hlt : j < k
    · have b1 := hb (j + 1) (by omega)
      have b0 := pw_pos h0 (j + 1)
      rw [pw_succ] at b1 b0
      have HS := Lib.hid (pw_succ a j)
      clear hb
      go_wp2
      go_round
      case rel => exact ⟨j + 1, by omega, by go_num, by rw [HS.out]⟩
      case measure => simp [intOf] <;> omega
    · obtain rfl : j = k := by omega
      clear hb
      go_wp2
      go_ret
      exact ⟨rfl, rfl⟩
set_option maxRecDepth 20000 in
set_option maxHeartbeats 4000000 in
theorem l6Values_c (A : Option Addr) (xs : List Int) (c : Nat) (n : Int) (w : World) (ha : Rd w A (ints xs)) (hl : xs.length ≤ 16777216) :
    Calls Try.prog 103 #[.slice A xs.length c, .int .i64 n] w fun e w' => e = .returned (.bool (decide ((xs.length : Int) = n) && allB xs (-999) 999)) ∧ w = w' := by
  go_enter Try.func103, Try.ntmps103
  go_wp2
  go_loop [5] (fun i => ∃ k : Nat, k ≤ xs.length ∧ i = .int .i64 k ∧ allB (xs.take k) (-999) 999 = true) (fun i => xs.length - (intOf i).toNat)
  case atStart => exact ⟨0, by omega, rfl, rfl⟩
  case round =>
    obtain ⟨k, hk, rfl, hall⟩ := hrel
    have HA := Lib.hid hall
    clear hall
    by_cases hlt : k < xs.length
    · obtain ⟨a, rfl, hca⟩ := ha.intN hlt
      have C := l1In_c (nth xs k) (-999) 999 w
      cases hx : inB (nth xs k) (-999) 999
      · rw [hx] at C
        have HN : Hid (allB xs (-999) 999 = false) := Lib.hid (allB_no hlt hx)
        clear hx
        go_wp2_with fail
        refine C.mono ?_
        rintro e w' ⟨rfl, rfl⟩
        go_wp2_with fail
        go_ret
        exact ⟨by rw [HN.out, Bool.and_false]; rfl, rfl⟩
      · rw [hx] at C
        have HN : Hid (allB (xs.take (k + 1)) (-999) 999 = true) := Lib.hid (allB_succ hlt HA.out hx)
        clear hx
        go_wp2_with fail
        refine C.mono ?_
        rintro e w' ⟨rfl, rfl⟩
        go_wp2_with fail
        go_round
        case rel => exact ⟨k + 1, by omega, by go_num, HN.out⟩
        case measure => simp [intOf] <;> omega
    · have HN : Hid (allB xs (-999) 999 = true) := Lib.hid (allB_end hlt HA.out)
      go_wp2
      go_ret
      exact ⟨by rw [HN.out, Bool.and_true]; first | rfl | simp, rfl⟩
theorem RowW.drop {n : Nat} {u d : Int} {xs : List Int} (h : RowW (n + 1) u d xs) : RowW n u d (xs.drop 1) :=
  ⟨⟨by have := h.n4; omega, h.u1, h.u9, h.d1, h.d9⟩, by have := h.len; simp; omega, fun i hi => by
    have := h.bd (i + 1) (by omega)
    have e : nth (xs.drop 1) i = nth xs (i + 1) := by simp [nth]
    rw [e]; exact this⟩
theorem RowW.take {n : Nat} {u d : Int} {xs : List Int} (h : RowW (n + 1) u d xs) : RowW n u d (xs.take (n + 1)) :=
  ⟨⟨by have := h.n4; omega, h.u1, h.u9, h.d1, h.d9⟩, by have := h.len; simp; omega, fun i hi => by
    have := h.bd i (by omega)
    have e : nth (xs.take (n + 1)) i = nth xs i := by simp [nth, show i < n + 1 by omega]
    rw [e]; exact this⟩
theorem rvA_drop {u d : Int} {xs : List Int} : ∀ k i, rvA u d (xs.drop 1) k i = rvA u d xs k (i + 1)
  | 0, i => by simp [rvA, nth]
  | k + 1, i => by rw [rvA, rvA, rvA_drop k (i + 1), rvA_drop k i]
theorem rvA_take {u d : Int} {xs : List Int} {n : Nat} : ∀ k i, i + k < n → rvA u d (xs.take n) k i = rvA u d xs k i
  | 0, i, h => by simp [rvA, nth, show i < n by omega]
  | k + 1, i, h => by rw [rvA, rvA, rvA_take k (i + 1) (by omega), rvA_take k i (by omega)]
set_option maxRecDepth 20000 in
set_option maxHeartbeats 4000000 in
theorem l6Value_c (u d : Int) : ∀ (n : Nat) (A : Option Addr) (xs : List Int) (c : Nat) (w : World), Rd w A (ints xs) → RowW n u d xs → xs.length ≤ c →
    Calls Try.prog 106 #[.int .i64 u, .int .i64 d, .slice A (n + 1) c] w (Quietly w (.int .i64 (rvA u d xs n 0))) := by
  intro n
  induction n with
  | zero =>
    intro A xs c w ha h _
    have hlen := h.len
    obtain ⟨ad, rfl, q0⟩ := ha.intN (k := 0) (by omega)
    have q1 : w.cell? ad = some (.int .i64 (nth xs 0)) := q0
    clear h hlen
    rw [show (0 : Nat) + 1 = 1 from rfl]
    go_enter Try.func106, Try.ntmps106
    go_wp2_with fail
    go_ret
    exact ⟨rfl, Below.refl _ _⟩
  | succ n ih =>
    intro A xs c w ha h hc
    have hlen := h.len
    have h4 := h.n4
    obtain ⟨ad, rfl, q0⟩ := ha.intN (k := 0) (by omega)
    have hcut := ha.cut (k := 1)
    rw [← ints_drop] at hcut
    have HD : Hid (Rd w (some ⟨ad.block, ad.off + 1, none⟩) (ints (xs.drop 1))) := Lib.hid hcut
    have HT := Lib.hid (ha.takeI (k := n + 1))
    have HW1 := Lib.hid h.drop
    have HW2 := Lib.hid h.take
    have HE1 : Hid (rvA u d (xs.drop 1) n 0 = rvA u d xs n 1) := Lib.hid (rvA_drop n 0)
    have HE2 : Hid (rvA u d (xs.take (n + 1)) n 0 = rvA u d xs n 0) := Lib.hid (rvA_take n 0 (by omega))
    have hu : 0 ≤ u ∧ u ≤ 9 := ⟨by have := h.u1; omega, h.u9⟩
    have hd : 0 ≤ d ∧ d ≤ 9 := ⟨by have := h.d1; omega, h.d9⟩
    have bx := h.rv (k := n) (i := 1) (by omega)
    have by_ := h.rv (k := n) (i := 0) (by omega)
    have HV0 : Hid (rvA u d xs (n + 1) 0 = d * rvA u d xs n 1 + u * rvA u d xs n 0) := Lib.hid rfl
    generalize rvA u d xs (n + 1) 0 = z at *
    generalize rvA u d xs n 1 = x at *
    generalize rvA u d xs n 0 = y at *
    have m1 := mulB (C := 943839216) bx hd (by decide) (by decide)
    have m2 := mulB (C := 943839216) by_ hu (by decide) (by decide)
    rw [Int.mul_comm] at m1 m2
    have f1 : IntKind.i64.wrap (d * x) = d * x := IntWalk.i64_in _ (by omega)
    have f2 : IntKind.i64.wrap (u * y) = u * y := IntWalk.i64_in _ (by omega)
    have f3 : IntKind.i64.wrap (d * x + u * y) = d * x + u * y := IntWalk.i64_in _ (by omega)
    have HV := HV0
    clear HV0 m1 m2 bx by_
    generalize nth xs 0 = q at *
    have c1 : ¬ c = 1 := by omega
    have i1 : (1 : Int) ≤ (n : Int) + 1 + 1 := by omega
    have i2 : (n : Int) + 1 ≤ (c : Int) := by omega
    have i3 : (0 : Int) ≤ (n : Int) + 1 := by omega
    have f4 : IntKind.i64.wrap ((n : Int) + 1) = (n : Int) + 1 := IntWalk.i64_in _ (by omega)
    have f5 : ((n : Int) + 1).toNat = n + 1 := by omega
    have HLn := Lib.hid hlen
    clear h hcut ha
    go_enter Try.func106, Try.ntmps106
    go_upto_region 3 with fail
    have hd1 : Below w.heap.size w w.drew := Below.drew (Below.refl _ _)
    have SK1 : Hid (∀ w', Below w.heap.size w w' → w'.cell? (ad.add 0) = some (.int .i64 q)) := Lib.hid fun w' HV => (HV.cell (cell_lt q0)).trans q0
    clear q0
    have hS1_0 := SK1.out _ hd1
    refine tamed_region (S := fun w' => w'.cell? (ad.add 0) = some (.int .i64 q)) (fun _ => false) (by kernel_rfl) ?_
    refine tame0 (k := 0) ?_ rfl (by kernel_rfl) (by kernel_rfl) (by kernel_rfl) (fun _ _ _ h => h) (by kernel_rfl) (fun v => ?_) ?_
    rotate_left
    · (go_simp; all_goals rfl)
    simp only [Act.put, List.setIfInBounds_toArray]
    refine tame0 (k := 1) ?_ rfl (by kernel_rfl) (by kernel_rfl) (by kernel_rfl) (fun _ _ _ h => h) (by kernel_rfl) (fun v => ?_) ?_
    rotate_left
    · (go_simp; all_goals rfl)
    simp only [Act.put]
    refine tame0 (k := 2) ?_ rfl (by kernel_rfl) (by kernel_rfl) (by kernel_rfl) (fun _ _ _ h => h) (by kernel_rfl) (fun v => ?_) ?_
    rotate_left
    · (go_simp; all_goals rfl)
    simp only [Act.put]
    refine tame0 (k := 3) ?_ rfl (by kernel_rfl) (by kernel_rfl) (by kernel_rfl) (fun _ _ _ h => h) (by kernel_rfl) (fun v => ?_) ?_
    rotate_left
    · (go_simp; all_goals rfl)
    simp only [Act.put]
    refine tame0 (k := 4) ?_ rfl (by kernel_rfl) (by kernel_rfl) (by kernel_rfl) (fun _ _ _ h => h) (by kernel_rfl) (fun v => ?_) ?_
    rotate_left
    · (go_simp; all_goals rfl)
    simp only [Act.put]
    refine tame0 (k := 7) ?_ rfl (by kernel_rfl) (by kernel_rfl) (by kernel_rfl) (fun _ _ _ h => h) (by kernel_rfl) (fun v => ?_) ?_
    rotate_left
    · (go_simp; all_goals rfl)
    simp only [Act.put]
    refine tame0 (k := 8) ?_ rfl (by kernel_rfl) (by kernel_rfl) (by kernel_rfl) (fun _ _ _ h => h) (by kernel_rfl) (fun v => ?_) ?_
    rotate_left
    · (go_simp; all_goals rfl)
    simp only [Act.put]
    refine tame0 (k := 9) ?_ rfl (by kernel_rfl) (by kernel_rfl) (by kernel_rfl) (fun _ _ _ h => h) (by kernel_rfl) (fun v => ?_) ?_
    rotate_left
    · (go_simp; all_goals rfl)
    simp only [Act.put]
    refine tame0 (k := 10) ?_ rfl (by kernel_rfl) (by kernel_rfl) (by kernel_rfl) (fun _ _ _ h => h) (by kernel_rfl) (fun v => ?_) ?_
    rotate_left
    · (go_simp; all_goals rfl)
    simp only [Act.put]
    refine tame0 (k := 11) ?_ rfl (by kernel_rfl) (by kernel_rfl) (by kernel_rfl) (fun _ _ _ h => h) (by kernel_rfl) (fun v => ?_) ?_
    rotate_left
    · (go_simp; all_goals rfl)
    simp only [Act.put]
    refine tame0 (k := 12) ?_ rfl (by kernel_rfl) (by kernel_rfl) (by kernel_rfl) (fun _ _ _ h => h) (by kernel_rfl) (fun v => ?_) ?_
    rotate_left
    · (go_simp; all_goals rfl)
    simp only [Act.put]
    refine tame0 (k := 13) ?_ rfl (by kernel_rfl) (by kernel_rfl) (by kernel_rfl) (fun _ _ _ h => h) (by kernel_rfl) (fun v => ?_) ?_
    rotate_left
    · (go_simp; all_goals rfl)
    simp only [Act.put]
    refine tame0 (k := 14) ?_ rfl (by kernel_rfl) (by kernel_rfl) (by kernel_rfl) (fun _ _ _ h => h) (by kernel_rfl) (fun v => ?_) ?_
    rotate_left
    · (go_simp; all_goals rfl)
    simp only [Act.put]
    refine tame_one (k := 5) (by kernel_rfl) rfl (by kernel_rfl) ?_
    go_simp
    refine (ih (some ⟨ad.block, ad.off + 1, none⟩) (xs.drop 1) (c - 1) _ (HD.out.below hd1 (Nat.le_refl _)) HW1.out (by simp; omega)).mono ?_
    rintro e w1 ⟨rfl, b1⟩
    rw [HE1.out]
    have hd1_1 := bUp hd1 b1 (Nat.le_refl _)
    have hS1_1 := Lib.hid (SK1.out _ hd1_1)
    refine ⟨by first | exact hS1_1 | exact Hid.out hS1_1, ?_⟩
    refine tame0 (k := 6) ?_ rfl (by kernel_rfl) (by kernel_rfl) (by kernel_rfl) (fun _ _ _ h => h) (by kernel_rfl) (fun v => ?_) ?_
    rotate_left
    · (go_simp; all_goals rfl)
    simp only [Act.put]
    refine tame_one (k := 15) (by kernel_rfl) rfl (by kernel_rfl) ?_
    go_simp
    refine (ih (some ad) (xs.take (n + 1)) c _ (HT.out.below hd1_1 (Nat.le_refl _)) HW2.out (by simp; omega)).mono ?_
    rintro e w2 ⟨rfl, b2⟩
    rw [HE2.out]
    have hd1_2 := bUp hd1_1 b2 hd1_1.size
    have hS1_2 := Lib.hid (SK1.out _ hd1_2)
    refine ⟨by first | exact hS1_2 | exact Hid.out hS1_2, ?_⟩
    refine tame_one (k := 16) (by kernel_rfl) rfl (by kernel_rfl) ?_
    go_simp
    refine ⟨by first | exact hS1_2 | exact Hid.out hS1_2, ?_⟩
    refine tame_one (k := 17) (by kernel_rfl) rfl (by kernel_rfl) ?_
    go_simp
    refine ⟨by first | exact hS1_2 | exact Hid.out hS1_2, ?_⟩
    refine tame_one (k := 18) (by kernel_rfl) rfl (by kernel_rfl) ?_
    go_simp
    refine ⟨by first | exact hS1_2 | exact Hid.out hS1_2, ?_⟩
    refine tame_end (by kernel_rfl) ?_
    go_wp2_with fail
    go_ret
    exact ⟨by rw [HV.out]; rfl, hd1_2⟩

theorem rw_no {n u d : Int} {xs : List Int} (h : rwB n u d xs = false) : rwT n u d xs = 0 ∧ rwU n u d xs = 0 := by simp [rwT, rwU, h]
theorem rw_yes {k : Nat} {u d : Int} {xs : List Int} (h : rwB (k : Int) u d xs = true) : rwT (k : Int) u d xs = cutT (rvA u d xs k 0) (pw (u + d) k) ∧ rwU (k : Int) u d xs = cutB (rvA u d xs k 0) (pw (u + d) k) := by simp [rwT, rwU, rwN, h]
theorem rh_no {n u d : Int} {xs : List Int} (h : rhB n u d xs = false) : rhT n u d xs = 0 ∧ rhU n u d xs = 0 := by simp [rhT, rhU, h]
theorem rh_yes {k : Nat} {u d : Int} {xs : List Int} (h : rhB ((k + 1 : Nat) : Int) u d xs = true) : rhT ((k + 1 : Nat) : Int) u d xs = cutT (rvA u d xs k 1 - rvA u d xs k 0) (pw (u + d) (k + 1)) ∧ rhU ((k + 1 : Nat) : Int) u d xs = cutB (rvA u d xs k 1 - rvA u d xs k 0) (pw (u + d) (k + 1)) := by
  have e : ((k + 1 : Nat) : Int).toNat = k + 1 := Int.toNat_natCast _
  simp only [rhT, rhU, rhN, h, if_true, e, Nat.add_sub_cancel, and_self]
/-- What the last steps need. -/
structure RwFin (a b s : Int) (k : Nat) : Prop where
  a1 : -4000000000000000000 ≤ a
  a2 : a ≤ 4000000000000000000
  b1 : 0 < b
  b2 : b ≤ 4000000000000000000
  ok : lwOk a b = true
  t : lwT a b = cutT a b
  u : lwB a b = cutB a b
  c1 : -4000000000000000000 ≤ cutT a b
  c2 : cutT a b ≤ 4000000000000000000
  s0 : 0 ≤ s
  s18 : s ≤ 18
  eb : pw s k = b
  pp : ∀ j, j ≤ k → pw s j ≤ 1000000000000
theorem rwFin {n : Nat} {u d a : Int} {k : Nat} (h : RowOk n u d) (hk : k ≤ 4) (ha : -1000000000 ≤ a ∧ a ≤ 1000000000) : RwFin a (pw (u + d) k) (u + d) k := by
  have p := h.pb hk
  have l := lw_ok ha (show 1 ≤ pw (u + d) k ∧ pw (u + d) k ≤ 1000000 by omega)
  have cb := cutT_bd (a := a) (b := pw (u + d) k) (by omega) (M := 1000000000) ha.1 ha.2
  have := h.u1
  have := h.u9
  have := h.d1
  have := h.d9
  exact ⟨by omega, by omega, by omega, by omega, l.1, l.2.1, l.2.2, by omega, by omega, by omega, by omega, rfl, fun j hj => by have := (h.pb (k := j) (by omega)).2; omega⟩

set_option maxRecDepth 20000 in
set_option maxHeartbeats 4000000 in
theorem implRv_c (n u d : Int) (A : Option Addr) (xs : List Int) (c : Nat) (w : World) (ha : Rd w A (ints xs)) (hl : xs.length ≤ 16777216) :
    Calls Try.prog 39 #[.int .i64 n, .int .i64 u, .int .i64 d, .slice A xs.length c] w (Quietly w (.tuple #[.agg #[.int .i64 (rwT n u d xs), .int .i64 (rwU n u d xs)], .bool (rwB n u d xs)])) := by
  have B0 := Bx.new w (.int .i64 0) (.int .i64 0) 40
  have HB0 : Below w.heap.size w (w.alloc (.cells #[.int .i64 0, .int .i64 0] 40)) := (Below.refl _ _).alloc (Nat.le_refl _) _
  have ha1 := ha.below HB0 (Nat.le_refl _)
  have zs : (w.alloc (.cells #[.int .i64 0, .int .i64 0] 40)).heap.size = w.heap.size + 1 := by simp
  have C := isRowWith_c n u d A xs c _ ha1 hl
  clear zs
  cases h : rwB n u d xs
  · rw [(rw_no h).1, (rw_no h).2]
    rw [h] at C
    clear h
    go_enter Try.func39, Try.ntmps39
    go_wp2_with fail
    refine C.mono ?_
    rintro e w' ⟨rfl, rfl⟩
    obtain ⟨z0, z1, y0, y1, hz⟩ := id B0
    go_wp2_with fail
    exact bodyPost_ret (v := .tuple #[.agg #[.int .i64 (0), .int .i64 (0)], .bool false]) (by simp [results, Try.results39, go_sem, z0, z1]) rfl ⟨rfl, by with_reducible repeat (first | exact HB0 | refine Below.setCell ?_ (by simp) _)⟩
  · obtain ⟨h0, H1, H2, H3⟩ := rwB_iff.1 h
    obtain ⟨k, rfl⟩ : ∃ k : Nat, n = (k : Int) := ⟨n.toNat, by omega⟩
    rw [Int.toNat_natCast] at H1 H2
    have HW := rwB_ok H1 H2 H3
    have F := rwFin (a := rvA u d xs k 0) H1 H1.n4 (by have := HW.rv (k := k) (i := 0) (by omega); omega)
    rw [(rw_yes h).1, (rw_yes h).2]
    rw [h] at C
    have CV := fun W hW => rowValue_c k u d A xs c W hW HW
    have hs : 0 ≤ u + d ∧ u + d ≤ 18 := ⟨F.s0, F.s18⟩
    have h4 := H1.n4
    rw [H2] at C ⊢
    clear h H1 H2 H3 HW
    generalize rvA u d xs k 0 = x at *
    have HF := Lib.hid F
    clear F
    go_enter Try.func39, Try.ntmps39
    go_wp2_with fail
    refine C.mono ?_
    rintro e w' ⟨rfl, rfl⟩
    go_wp2_with fail
    refine (CV _ ha1).mono ?_
    rintro e w1 ⟨rfl, b1⟩
    have HB1 := bUp HB0 b1 HB0.size
    go_wp2_with fail
    refine (power_c (u + d) k (by omega) hs.1 HF.out.pp _).mono ?_
    rintro e w' ⟨rfl, rfl⟩
    go_wp2_with fail
    have CL := lowest_c x (pw (u + d) k) HF.out.a1 HF.out.a2 HF.out.b1 HF.out.b2 w1
    rw [HF.out.t, HF.out.u, HF.out.ok] at CL
    refine CL.mono ?_
    rintro e w2 ⟨rfl, b2⟩
    have HB2 := bUp HB1 b2 HB1.size
    obtain ⟨z0, z1, y0, y1, hz⟩ := (B0.below b1).below b2
    go_wp2_with fail
    exact bodyPost_ret (v := .tuple #[.agg #[.int .i64 (cutT x (pw (u + d) k)), .int .i64 (cutB x (pw (u + d) k))], .bool true]) (by simp [results, Try.results39, go_sem, z0, z1]) rfl ⟨rfl, by with_reducible repeat (first | exact HB2 | refine Below.setCell ?_ (by simp) _)⟩
theorem rwB_alt {n u d : Int} {xs : List Int} : rwB n u d xs = (rowB n u d && (decide ((xs.length : Int) = n + 1) && allB xs (-999) 999)) := by rw [rwB, Bool.and_assoc]
set_option maxRecDepth 20000 in
set_option maxHeartbeats 4000000 in
theorem specRv_c (n u d : Int) (A : Option Addr) (xs : List Int) (c : Nat) (w : World) (ha : Rd w A (ints xs)) (hl : xs.length ≤ 16777216) (hc : xs.length ≤ c) :
    Calls Try.prog 40 #[.int .i64 n, .int .i64 u, .int .i64 d, .slice A xs.length c] w (Quietly w (.tuple #[.agg #[.int .i64 (rwT n u d xs), .int .i64 (rwU n u d xs)], .bool (rwB n u d xs)])) := by
  have B0 := Bx.new w (.int .i64 0) (.int .i64 0) 40
  have HB0 : Below w.heap.size w (w.alloc (.cells #[.int .i64 0, .int .i64 0] 40)) := (Below.refl _ _).alloc (Nat.le_refl _) _
  have ha1 := ha.below HB0 (Nat.le_refl _)
  have zs : (w.alloc (.cells #[.int .i64 0, .int .i64 0] 40)).heap.size = w.heap.size + 1 := by simp
  have C := l6Row_c n u d (w.alloc (.cells #[.int .i64 0, .int .i64 0] 40))
  clear zs
  cases h1 : rowB n u d
  · have h := rwB_1 (xs := xs) h1
    rw [(rw_no h).1, (rw_no h).2, h]
    rw [h1] at C
    clear h h1
    go_enter Try.func40, Try.ntmps40
    go_wp2_with fail
    refine C.mono ?_
    rintro e w' ⟨rfl, rfl⟩
    obtain ⟨z0, z1, y0, y1, hz⟩ := id B0
    go_wp2_with fail
    exact bodyPost_ret (v := .tuple #[.agg #[.int .i64 (0), .int .i64 (0)], .bool false]) (by simp [results, Try.results40, go_sem, z0, z1]) rfl ⟨rfl, by with_reducible repeat (first | exact HB0 | refine Below.setCell ?_ (by simp) _)⟩
  · have hn := row_n h1
    rw [h1] at C
    have C2 := l6Values_c A xs c (n + 1) _ ha1 hl
    cases h : rwB n u d xs
    · rw [(rw_no h).1, (rw_no h).2]
      have h2 := rwB_alt (n := n) (u := u) (d := d) (xs := xs)
      rw [h, h1, Bool.true_and] at h2
      rw [← h2] at C2
      clear h h1 h2
      go_enter Try.func40, Try.ntmps40
      go_wp2_with fail
      refine C.mono ?_
      rintro e w' ⟨rfl, rfl⟩
      go_wp2_with fail
      refine C2.mono ?_
      rintro e w' ⟨rfl, rfl⟩
      obtain ⟨z0, z1, y0, y1, hz⟩ := id B0
      go_wp2_with fail
      exact bodyPost_ret (v := .tuple #[.agg #[.int .i64 (0), .int .i64 (0)], .bool false]) (by simp [results, Try.results40, go_sem, z0, z1]) rfl ⟨rfl, by with_reducible repeat (first | exact HB0 | refine Below.setCell ?_ (by simp) _)⟩
    · have h2 := rwB_alt (n := n) (u := u) (d := d) (xs := xs)
      rw [h, h1, Bool.true_and] at h2
      rw [← h2] at C2
      obtain ⟨h0, H1, H2, H3⟩ := rwB_iff.1 h
      obtain ⟨k, rfl⟩ : ∃ k : Nat, n = (k : Int) := ⟨n.toNat, by omega⟩
      rw [Int.toNat_natCast] at H1 H2
      have HW := rwB_ok H1 H2 H3
      have F := rwFin (a := rvA u d xs k 0) H1 H1.n4 (by have := HW.rv (k := k) (i := 0) (by omega); omega)
      rw [(rw_yes h).1, (rw_yes h).2]
      have CV := fun W hW => l6Value_c u d k A xs c W hW HW hc
      have hs : 0 ≤ u + d ∧ u + d ≤ 18 := ⟨F.s0, F.s18⟩
      have h4 := H1.n4
      rw [H2] at C2 ⊢
      clear h h1 h2 H1 H2 H3 HW
      generalize rvA u d xs k 0 = x at *
      have HF := Lib.hid F
      clear F
      go_enter Try.func40, Try.ntmps40
      go_wp2_with fail
      refine C.mono ?_
      rintro e w' ⟨rfl, rfl⟩
      go_wp2_with fail
      refine C2.mono ?_
      rintro e w' ⟨rfl, rfl⟩
      go_wp2_with fail
      refine (CV _ ha1).mono ?_
      rintro e w1 ⟨rfl, b1⟩
      have HB1 := bUp HB0 b1 HB0.size
      go_wp2_with fail
      refine (l6Power_c (u + d) k h4 hs.1 hs.2 _).mono ?_
      rintro e w' ⟨rfl, rfl⟩
      go_wp2_with fail
      refine (l2Cut_c x (pw (u + d) k) HF.out.a1 HF.out.a2 HF.out.b1 HF.out.b2 w1).mono ?_
      rintro e w2 ⟨rfl, b2⟩
      have HB2 := bUp HB1 b2 HB1.size
      go_wp2_with fail
      have CK := l2Kept_c (cutT x (pw (u + d) k)) (cutB x (pw (u + d) k)) HF.out.c1 HF.out.c2 w2
      rw [show kpT (cutT x (pw (u + d) k)) (cutB x (pw (u + d) k)) = cutT x (pw (u + d) k) from HF.out.t, show kpB (cutT x (pw (u + d) k)) (cutB x (pw (u + d) k)) = cutB x (pw (u + d) k) from HF.out.u, show fracB (cutT x (pw (u + d) k)) (cutB x (pw (u + d) k)) = true from HF.out.ok] at CK
      refine CK.mono ?_
      rintro e w3 ⟨rfl, b3⟩
      have HB3 := bUp HB2 b3 HB2.size
      obtain ⟨z0, z1, y0, y1, hz⟩ := ((B0.below b1).below b2).below b3
      go_wp2_with fail
      exact bodyPost_ret (v := .tuple #[.agg #[.int .i64 (cutT x (pw (u + d) k)), .int .i64 (cutB x (pw (u + d) k))], .bool true]) (by simp [results, Try.results40, go_sem, z0, z1]) rfl ⟨rfl, by with_reducible repeat (first | exact HB3 | refine Below.setCell ?_ (by simp) _)⟩

theorem rhB_0 {u d : Int} {xs : List Int} : rhB 0 u d xs = false := by simp [rhB]
theorem rhB_1 {n u d : Int} {xs : List Int} (h : rwB n u d xs = false) : rhB n u d xs = false := by simp [rhB, h]
theorem rhB_2 {n u d : Int} {xs : List Int} (h : rwB n u d xs = true) (h0 : n ≠ 0) : rhB n u d xs = true := by simp [rhB, h, h0]
theorem rw_nn {n u d : Int} {xs : List Int} (h : rwB n u d xs = true) : 0 ≤ n := (rwB_iff.1 h).1
set_option maxRecDepth 20000 in
set_option maxHeartbeats 4000000 in
theorem implRh_c (n u d : Int) (A : Option Addr) (xs : List Int) (c : Nat) (w : World) (ha : Rd w A (ints xs)) (hl : xs.length ≤ 16777216) (hc : xs.length ≤ c) :
    Calls Try.prog 41 #[.int .i64 n, .int .i64 u, .int .i64 d, .slice A xs.length c] w (Quietly w (.tuple #[.agg #[.int .i64 (rhT n u d xs), .int .i64 (rhU n u d xs)], .bool (rhB n u d xs)])) := by
  have B0 := Bx.new w (.int .i64 0) (.int .i64 0) 40
  have HB0 : Below w.heap.size w (w.alloc (.cells #[.int .i64 0, .int .i64 0] 40)) := (Below.refl _ _).alloc (Nat.le_refl _) _
  have ha1 := ha.below HB0 (Nat.le_refl _)
  have zs : (w.alloc (.cells #[.int .i64 0, .int .i64 0] 40)).heap.size = w.heap.size + 1 := by simp
  have C := isRowWith_c n u d A xs c _ ha1 hl
  clear zs
  by_cases hn : n = 0
  · subst hn
    have h := @rhB_0 u d xs
    rw [(rh_no h).1, (rh_no h).2, h]
    clear h C
    obtain ⟨z0, z1, y0, y1, hz⟩ := id B0
    go_enter Try.func41, Try.ntmps41
    go_wp2_with fail
    exact bodyPost_ret (v := .tuple #[.agg #[.int .i64 (0), .int .i64 (0)], .bool false]) (by simp [results, Try.results41, go_sem, z0, z1]) rfl ⟨rfl, by with_reducible repeat (first | exact HB0 | refine Below.setCell ?_ (by simp) _)⟩
  · cases h : rwB n u d xs
    · have HR := rhB_1 h
      rw [(rh_no HR).1, (rh_no HR).2, HR]
      rw [h] at C
      clear h HR
      go_enter Try.func41, Try.ntmps41
      go_wp2_with fail
      refine C.mono ?_
      rintro e w' ⟨rfl, rfl⟩
      obtain ⟨z0, z1, y0, y1, hz⟩ := id B0
      go_wp2_with fail
      exact bodyPost_ret (v := .tuple #[.agg #[.int .i64 (0), .int .i64 (0)], .bool false]) (by simp [results, Try.results41, go_sem, z0, z1]) rfl ⟨rfl, by with_reducible repeat (first | exact HB0 | refine Below.setCell ?_ (by simp) _)⟩
    · have HR := rhB_2 h hn
      have hnn := rw_nn h
      rw [h] at C
      obtain ⟨h0, H1, H2, H3⟩ := rwB_iff.1 h
      obtain ⟨k, rfl⟩ : ∃ k : Nat, n = ((k + 1 : Nat) : Int) := ⟨(n - 1).toNat, by omega⟩
      rw [Int.toNat_natCast] at H1 H2
      have HW := rwB_ok H1 H2 H3
      have bx := HW.rv (k := k) (i := 1) (by omega)
      have by_ := HW.rv (k := k) (i := 0) (by omega)
      have F := rwFin (a := rvA u d xs k 1 - rvA u d xs k 0) (k := k + 1) H1 H1.n4 (by omega)
      rw [(rh_yes HR).1, (rh_yes HR).2, HR]
      have hs : 0 ≤ u + d ∧ u + d ≤ 18 := ⟨F.s0, F.s18⟩
      have h4 := H1.n4
      obtain ⟨ad, rfl, _⟩ := ha.intN (k := 0) (by omega)
      have hcut := ha1.cut (k := 1)
      rw [← ints_drop] at hcut
      have HD : Hid (Rd (w.alloc (.cells #[.int .i64 0, .int .i64 0] 40)) (some ⟨ad.block, ad.off + 1, none⟩) (ints (xs.drop 1))) := Lib.hid hcut
      have HT := Lib.hid (ha1.takeI (k := k + 1))
      have HW1 := Lib.hid HW.drop
      have HW2 := Lib.hid HW.take
      have HE1 : Hid (rvA u d (xs.drop 1) k 0 = rvA u d xs k 1) := Lib.hid (rvA_drop k 0)
      have HE2 : Hid (rvA u d (xs.take (k + 1)) k 0 = rvA u d xs k 0) := Lib.hid (rvA_take k 0 (by omega))
      have HF := Lib.hid F
      have HLn := Lib.hid H2
      rw [H2] at C hc ⊢
      clear h HR H1 H2 H3 HW F hcut
      generalize rvA u d xs k 1 = x at *
      generalize rvA u d xs k 0 = y at *
      have f1 : IntKind.i64.wrap (x - y) = x - y := IntWalk.i64_in _ (by omega)
      have f2 : IntKind.i64.wrap (u + d) = u + d := IntWalk.i64_in _ (by omega)
      have c1 : ¬ c = 1 := by omega
      have i1 : (1 : Int) ≤ (k : Int) + 1 + 1 := by omega
      have i2 : (k : Int) + 1 ≤ (c : Int) := by omega
      have i3 : (0 : Int) ≤ (k : Int) + 1 := by omega
      have i4 : ¬ (k : Int) + 1 = 0 := by omega
      have f5 : ((k : Int) + 1).toNat = k + 1 := by omega
      clear ha1
      generalize hv0 : w.alloc (.cells #[.int .i64 0, .int .i64 0] 40) = v0 at *
      have HV0 := Lib.hid hv0
      clear hv0 hn hnn
      go_enter Try.func41, Try.ntmps41
      go_wp2_with fail
      rw [HV0.out]
      refine C.mono ?_
      rintro e w' ⟨rfl, rfl⟩
      go_upto_region 3 with fail
      obtain ⟨z0, z1, y0, y1, hz⟩ := id B0
      have hd1 : Below v0.heap.size v0 v0.drew := Below.drew (Below.refl _ _)
      have SK1 : Hid (∀ w', Below v0.heap.size v0 w' → w'.cell? ⟨w.heap.size, 0, none⟩ = some (.int .i64 0) ∧ w'.cell? ⟨w.heap.size, 1, none⟩ = some (.int .i64 0)) := Lib.hid fun w' HV => ⟨(HV.cell (p := ⟨w.heap.size, 0, none⟩) hz).trans z0, (HV.cell (p := ⟨w.heap.size, 1, none⟩) hz).trans z1⟩
      clear z0 z1 y0 y1
      have hS1_0 := SK1.out _ hd1
      refine tamed_region (S := fun w' => w'.cell? ⟨w.heap.size, 0, none⟩ = some (.int .i64 0) ∧ w'.cell? ⟨w.heap.size, 1, none⟩ = some (.int .i64 0)) (fun k => k == 20 || k == 21) (by kernel_rfl) ?_
      refine tame0 (k := 0) ?_ rfl (by kernel_rfl) (by kernel_rfl) (by kernel_rfl) (fun _ _ _ h => h) (by kernel_rfl) (fun v => ?_) ?_
      rotate_left
      · (go_simp; all_goals rfl)
      simp only [Act.put, List.setIfInBounds_toArray]
      refine tame0 (k := 1) ?_ rfl (by kernel_rfl) (by kernel_rfl) (by kernel_rfl) (fun _ _ _ h => h) (by kernel_rfl) (fun v => ?_) ?_
      rotate_left
      · (go_simp; all_goals rfl)
      simp only [Act.put]
      refine tame0 (k := 2) ?_ rfl (by kernel_rfl) (by kernel_rfl) (by kernel_rfl) (fun _ _ _ h => h) (by kernel_rfl) (fun v => ?_) ?_
      rotate_left
      · (go_simp; all_goals rfl)
      simp only [Act.put]
      refine tame0 (k := 3) ?_ rfl (by kernel_rfl) (by kernel_rfl) (by kernel_rfl) (fun _ _ _ h => h) (by kernel_rfl) (fun v => ?_) ?_
      rotate_left
      · (go_simp; all_goals rfl)
      simp only [Act.put]
      refine tame0 (k := 5) ?_ rfl (by kernel_rfl) (by kernel_rfl) (by kernel_rfl) (fun _ _ _ h => h) (by kernel_rfl) (fun v => ?_) ?_
      rotate_left
      · (go_simp; all_goals rfl)
      simp only [Act.put]
      refine tame0 (k := 6) ?_ rfl (by kernel_rfl) (by kernel_rfl) (by kernel_rfl) (fun _ _ _ h => h) (by kernel_rfl) (fun v => ?_) ?_
      rotate_left
      · (go_simp; all_goals rfl)
      simp only [Act.put]
      refine tame0 (k := 7) ?_ rfl (by kernel_rfl) (by kernel_rfl) (by kernel_rfl) (fun _ _ _ h => h) (by kernel_rfl) (fun v => ?_) ?_
      rotate_left
      · (go_simp; all_goals rfl)
      simp only [Act.put]
      refine tame0 (k := 8) ?_ rfl (by kernel_rfl) (by kernel_rfl) (by kernel_rfl) (fun _ _ _ h => h) (by kernel_rfl) (fun v => ?_) ?_
      rotate_left
      · (go_simp; all_goals rfl)
      simp only [Act.put]
      refine tame0 (k := 9) ?_ rfl (by kernel_rfl) (by kernel_rfl) (by kernel_rfl) (fun _ _ _ h => h) (by kernel_rfl) (fun v => ?_) ?_
      rotate_left
      · (go_simp; all_goals rfl)
      simp only [Act.put]
      refine tame0 (k := 12) ?_ rfl (by kernel_rfl) (by kernel_rfl) (by kernel_rfl) (fun _ _ _ h => h) (by kernel_rfl) (fun v => ?_) ?_
      rotate_left
      · (go_simp; all_goals rfl)
      simp only [Act.put]
      refine tame0 (k := 13) ?_ rfl (by kernel_rfl) (by kernel_rfl) (by kernel_rfl) (fun _ _ _ h => h) (by kernel_rfl) (fun v => ?_) ?_
      rotate_left
      · (go_simp; all_goals rfl)
      simp only [Act.put]
      refine tame0 (k := 14) ?_ rfl (by kernel_rfl) (by kernel_rfl) (by kernel_rfl) (fun _ _ _ h => h) (by kernel_rfl) (fun v => ?_) ?_
      rotate_left
      · (go_simp; all_goals rfl)
      simp only [Act.put]
      refine tame0 (k := 15) ?_ rfl (by kernel_rfl) (by kernel_rfl) (by kernel_rfl) (fun _ _ _ h => h) (by kernel_rfl) (fun v => ?_) ?_
      rotate_left
      · (go_simp; all_goals rfl)
      simp only [Act.put]
      refine tame_one (k := 4) (by kernel_rfl) rfl (by kernel_rfl) ?_
      go_simp
      refine (rowValue_c k u d (some ⟨ad.block, ad.off + 1, none⟩) (xs.drop 1) (c - 1) _ (HD.out.below hd1 (Nat.le_refl _)) HW1.out).mono ?_
      rintro e w1 ⟨rfl, b1⟩
      rw [HE1.out]
      have hd1_1 := bUp hd1 b1 (Nat.le_refl _)
      have hS1_1 := Lib.hid (SK1.out _ hd1_1)
      refine ⟨by first | exact hS1_1 | exact Hid.out hS1_1, ?_⟩
      refine tame_one (k := 10) (by kernel_rfl) rfl (by kernel_rfl) ?_
      go_simp
      refine (rowValue_c k u d (some ad) (xs.take (k + 1)) (c) _ (HT.out.below hd1_1 (Nat.le_refl _)) HW2.out).mono ?_
      rintro e w2 ⟨rfl, b2⟩
      rw [HE2.out]
      have hd1_2 := bUp hd1_1 b2 hd1_1.size
      have hS1_2 := Lib.hid (SK1.out _ hd1_2)
      refine ⟨by first | exact hS1_2 | exact Hid.out hS1_2, ?_⟩
      refine tame0 (k := 11) ?_ rfl (by kernel_rfl) (by kernel_rfl) (by kernel_rfl) (fun _ _ _ h => h) (by kernel_rfl) (fun v => ?_) ?_
      rotate_left
      · (go_simp; all_goals rfl)
      simp only [Act.put]
      refine tame_one (k := 16) (by kernel_rfl) rfl (by kernel_rfl) ?_
      go_simp
      refine (power_c (u + d) (k + 1) (by omega) hs.1 HF.out.pp _).mono ?_
      rintro e w' ⟨rfl, rfl⟩
      refine ⟨by first | exact hS1_2 | exact Hid.out hS1_2, ?_⟩
      have CL := lowest_c (x - y) (pw (u + d) (k + 1)) HF.out.a1 HF.out.a2 HF.out.b1 HF.out.b2 w2
      rw [HF.out.t, HF.out.u, HF.out.ok] at CL
      refine tame_one (k := 17) (by kernel_rfl) rfl (by kernel_rfl) ?_
      go_simp
      refine (CL).mono ?_
      rintro e w3 ⟨rfl, b3⟩
      have hd1_3 := bUp hd1_2 b3 hd1_2.size
      have hS1_3 := Lib.hid (SK1.out _ hd1_3)
      refine ⟨by first | exact hS1_3 | exact Hid.out hS1_3, ?_⟩
      refine tame0 (k := 18) ?_ rfl (by kernel_rfl) (by kernel_rfl) (by kernel_rfl) (fun _ _ _ h => h) (by kernel_rfl) (fun v => ?_) ?_
      rotate_left
      · (go_simp; all_goals rfl)
      simp only [Act.put]
      refine tame0 (k := 19) ?_ rfl (by kernel_rfl) (by kernel_rfl) (by kernel_rfl) (fun _ _ _ h => h) (by kernel_rfl) (fun v => ?_) ?_
      rotate_left
      · (go_simp; all_goals rfl)
      simp only [Act.put]
      have HBz := bUp HB0 hd1_3 HB0.size
      obtain ⟨z0, z1, y0, y1, hz⟩ := B0.below hd1_3
      refine tame_one (k := 20) (by kernel_rfl) rfl (by kernel_rfl) ?_
      go_simp
      try (refine ⟨fun h => absurd h (by decide), ?_⟩)
      refine tame_one (k := 21) (by kernel_rfl) rfl (by kernel_rfl) ?_
      go_simp
      try (refine ⟨fun h => absurd h (by decide), ?_⟩)
      refine tame_end (by kernel_rfl) ?_
      go_wp2_with fail
      exact bodyPost_ret (v := .tuple #[.agg #[.int .i64 (cutT (x - y) (pw (u + d) (k + 1))), .int .i64 (cutB (x - y) (pw (u + d) (k + 1)))], .bool true]) (by simp [results, Try.results41, go_sem, z0, z1]) rfl ⟨rfl, by with_reducible repeat (first | exact HBz | refine Below.setCell ?_ (by simp) _)⟩

set_option maxRecDepth 20000 in
set_option maxHeartbeats 4000000 in
theorem specRh_c (n u d : Int) (A : Option Addr) (xs : List Int) (c : Nat) (w : World) (ha : Rd w A (ints xs)) (hl : xs.length ≤ 16777216) (hc : xs.length ≤ c) :
    Calls Try.prog 42 #[.int .i64 n, .int .i64 u, .int .i64 d, .slice A xs.length c] w (Quietly w (.tuple #[.agg #[.int .i64 (rhT n u d xs), .int .i64 (rhU n u d xs)], .bool (rhB n u d xs)])) := by
  have B0 := Bx.new w (.int .i64 0) (.int .i64 0) 40
  have HB0 : Below w.heap.size w (w.alloc (.cells #[.int .i64 0, .int .i64 0] 40)) := (Below.refl _ _).alloc (Nat.le_refl _) _
  have ha1 := ha.below HB0 (Nat.le_refl _)
  have zs : (w.alloc (.cells #[.int .i64 0, .int .i64 0] 40)).heap.size = w.heap.size + 1 := by simp
  have C1 := l6Row_c n u d (w.alloc (.cells #[.int .i64 0, .int .i64 0] 40))
  clear zs
  cases h1 : rowB n u d
  · have h := rhB_1 (rwB_1 (xs := xs) h1)
    rw [(rh_no h).1, (rh_no h).2, h]
    rw [h1] at C1
    clear h h1
    go_enter Try.func42, Try.ntmps42
    go_wp2_with fail
    refine C1.mono ?_
    rintro e w' ⟨rfl, rfl⟩
    obtain ⟨z0, z1, y0, y1, hz⟩ := id B0
    go_wp2_with fail
    exact bodyPost_ret (v := .tuple #[.agg #[.int .i64 (0), .int .i64 (0)], .bool false]) (by simp [results, Try.results42, go_sem, z0, z1]) rfl ⟨rfl, by with_reducible repeat (first | exact HB0 | refine Below.setCell ?_ (by simp) _)⟩
  · have hn4 := row_n h1
    rw [h1] at C1
    by_cases hn : n = 0
    · subst hn
      have h := @rhB_0 u d xs
      rw [(rh_no h).1, (rh_no h).2, h]
      clear h h1
      obtain ⟨z0, z1, y0, y1, hz⟩ := id B0
      go_enter Try.func42, Try.ntmps42
      go_wp2_with fail
      refine C1.mono ?_
      rintro e w' ⟨rfl, rfl⟩
      go_wp2_with fail
      exact bodyPost_ret (v := .tuple #[.agg #[.int .i64 (0), .int .i64 (0)], .bool false]) (by simp [results, Try.results42, go_sem, z0, z1]) rfl ⟨rfl, by with_reducible repeat (first | exact HB0 | refine Below.setCell ?_ (by simp) _)⟩
    · have C := l6Values_c A xs c (n + 1) _ ha1 hl
      have h2 := rwB_alt (n := n) (u := u) (d := d) (xs := xs)
      rw [h1, Bool.true_and] at h2
      rw [← h2] at C
      clear h1 h2
      cases h : rwB n u d xs
      · have HR := rhB_1 h
        rw [(rh_no HR).1, (rh_no HR).2, HR]
        rw [h] at C
        clear h HR
        go_enter Try.func42, Try.ntmps42
        go_wp2_with fail
        refine C1.mono ?_
        rintro e w' ⟨rfl, rfl⟩
        go_wp2_with fail
        refine C.mono ?_
        rintro e w' ⟨rfl, rfl⟩
        obtain ⟨z0, z1, y0, y1, hz⟩ := id B0
        go_wp2_with fail
        exact bodyPost_ret (v := .tuple #[.agg #[.int .i64 (0), .int .i64 (0)], .bool false]) (by simp [results, Try.results42, go_sem, z0, z1]) rfl ⟨rfl, by with_reducible repeat (first | exact HB0 | refine Below.setCell ?_ (by simp) _)⟩
      · have HR := rhB_2 h hn
        rw [h] at C
        obtain ⟨h0, H1, H2, H3⟩ := rwB_iff.1 h
        obtain ⟨k, rfl⟩ : ∃ k : Nat, n = ((k + 1 : Nat) : Int) := ⟨(n - 1).toNat, by omega⟩
        rw [Int.toNat_natCast] at H1 H2
        have HW := rwB_ok H1 H2 H3
        have bx := HW.rv (k := k) (i := 1) (by omega)
        have by_ := HW.rv (k := k) (i := 0) (by omega)
        have F := rwFin (a := rvA u d xs k 1 - rvA u d xs k 0) (k := k + 1) H1 H1.n4 (by omega)
        rw [(rh_yes HR).1, (rh_yes HR).2, HR]
        have hs : 0 ≤ u + d ∧ u + d ≤ 18 := ⟨F.s0, F.s18⟩
        have h4 := H1.n4
        obtain ⟨ad, rfl, _⟩ := ha.intN (k := 0) (by omega)
        have hcut := ha1.cut (k := 1)
        rw [← ints_drop] at hcut
        have HD : Hid (Rd (w.alloc (.cells #[.int .i64 0, .int .i64 0] 40)) (some ⟨ad.block, ad.off + 1, none⟩) (ints (xs.drop 1))) := Lib.hid hcut
        have HT := Lib.hid (ha1.takeI (k := k + 1))
        have HW1 := Lib.hid HW.drop
        have HW2 := Lib.hid HW.take
        have HE1 : Hid (rvA u d (xs.drop 1) k 0 = rvA u d xs k 1) := Lib.hid (rvA_drop k 0)
        have HE2 : Hid (rvA u d (xs.take (k + 1)) k 0 = rvA u d xs k 0) := Lib.hid (rvA_take k 0 (by omega))
        have HF := Lib.hid F
        have HLn := Lib.hid H2
        rw [H2] at C hc ⊢
        clear h HR H1 H2 H3 HW F hcut
        generalize rvA u d xs k 1 = x at *
        generalize rvA u d xs k 0 = y at *
        have f1 : IntKind.i64.wrap (x - y) = x - y := IntWalk.i64_in _ (by omega)
        have f2 : IntKind.i64.wrap (u + d) = u + d := IntWalk.i64_in _ (by omega)
        have c1 : ¬ c = 1 := by omega
        have i1 : (1 : Int) ≤ (k : Int) + 1 + 1 := by omega
        have i2 : (k : Int) + 1 ≤ (c : Int) := by omega
        have i3 : (0 : Int) ≤ (k : Int) + 1 := by omega
        have i4 : ¬ (k : Int) + 1 = 0 := by omega
        have f5 : ((k : Int) + 1).toNat = k + 1 := by omega
        clear ha1
        generalize hv0 : w.alloc (.cells #[.int .i64 0, .int .i64 0] 40) = v0 at *
        have HV0 := Lib.hid hv0
        clear hv0 hn hn4
        go_enter Try.func42, Try.ntmps42
        go_wp2_with fail
        rw [HV0.out]
        refine C1.mono ?_
        rintro e w' ⟨rfl, rfl⟩
        go_wp2_with fail
        refine C.mono ?_
        rintro e w' ⟨rfl, rfl⟩
        go_upto_region 3 with fail
        obtain ⟨z0, z1, y0, y1, hz⟩ := id B0
        have hd2 : Below v0.heap.size v0 v0.drew := Below.drew (Below.refl _ _)
        have SK2 : Hid (∀ w', Below v0.heap.size v0 w' → w'.cell? ⟨w.heap.size, 0, none⟩ = some (.int .i64 0) ∧ w'.cell? ⟨w.heap.size, 1, none⟩ = some (.int .i64 0)) := Lib.hid fun w' HV => ⟨(HV.cell (p := ⟨w.heap.size, 0, none⟩) hz).trans z0, (HV.cell (p := ⟨w.heap.size, 1, none⟩) hz).trans z1⟩
        clear z0 z1 y0 y1
        have hS2_0 := SK2.out _ hd2
        refine tamed_region (S := fun w' => w'.cell? ⟨w.heap.size, 0, none⟩ = some (.int .i64 0) ∧ w'.cell? ⟨w.heap.size, 1, none⟩ = some (.int .i64 0)) (fun k => k == 21 || k == 22) (by kernel_rfl) ?_
        refine tame0 (k := 0) ?_ rfl (by kernel_rfl) (by kernel_rfl) (by kernel_rfl) (fun _ _ _ h => h) (by kernel_rfl) (fun v => ?_) ?_
        rotate_left
        · (go_simp; all_goals rfl)
        simp only [Act.put, List.setIfInBounds_toArray]
        refine tame0 (k := 1) ?_ rfl (by kernel_rfl) (by kernel_rfl) (by kernel_rfl) (fun _ _ _ h => h) (by kernel_rfl) (fun v => ?_) ?_
        rotate_left
        · (go_simp; all_goals rfl)
        simp only [Act.put]
        refine tame0 (k := 2) ?_ rfl (by kernel_rfl) (by kernel_rfl) (by kernel_rfl) (fun _ _ _ h => h) (by kernel_rfl) (fun v => ?_) ?_
        rotate_left
        · (go_simp; all_goals rfl)
        simp only [Act.put]
        refine tame0 (k := 3) ?_ rfl (by kernel_rfl) (by kernel_rfl) (by kernel_rfl) (fun _ _ _ h => h) (by kernel_rfl) (fun v => ?_) ?_
        rotate_left
        · (go_simp; all_goals rfl)
        simp only [Act.put]
        refine tame0 (k := 5) ?_ rfl (by kernel_rfl) (by kernel_rfl) (by kernel_rfl) (fun _ _ _ h => h) (by kernel_rfl) (fun v => ?_) ?_
        rotate_left
        · (go_simp; all_goals rfl)
        simp only [Act.put]
        refine tame0 (k := 6) ?_ rfl (by kernel_rfl) (by kernel_rfl) (by kernel_rfl) (fun _ _ _ h => h) (by kernel_rfl) (fun v => ?_) ?_
        rotate_left
        · (go_simp; all_goals rfl)
        simp only [Act.put]
        refine tame0 (k := 7) ?_ rfl (by kernel_rfl) (by kernel_rfl) (by kernel_rfl) (fun _ _ _ h => h) (by kernel_rfl) (fun v => ?_) ?_
        rotate_left
        · (go_simp; all_goals rfl)
        simp only [Act.put]
        refine tame0 (k := 8) ?_ rfl (by kernel_rfl) (by kernel_rfl) (by kernel_rfl) (fun _ _ _ h => h) (by kernel_rfl) (fun v => ?_) ?_
        rotate_left
        · (go_simp; all_goals rfl)
        simp only [Act.put]
        refine tame0 (k := 9) ?_ rfl (by kernel_rfl) (by kernel_rfl) (by kernel_rfl) (fun _ _ _ h => h) (by kernel_rfl) (fun v => ?_) ?_
        rotate_left
        · (go_simp; all_goals rfl)
        simp only [Act.put]
        refine tame0 (k := 12) ?_ rfl (by kernel_rfl) (by kernel_rfl) (by kernel_rfl) (fun _ _ _ h => h) (by kernel_rfl) (fun v => ?_) ?_
        rotate_left
        · (go_simp; all_goals rfl)
        simp only [Act.put]
        refine tame0 (k := 13) ?_ rfl (by kernel_rfl) (by kernel_rfl) (by kernel_rfl) (fun _ _ _ h => h) (by kernel_rfl) (fun v => ?_) ?_
        rotate_left
        · (go_simp; all_goals rfl)
        simp only [Act.put]
        refine tame0 (k := 14) ?_ rfl (by kernel_rfl) (by kernel_rfl) (by kernel_rfl) (fun _ _ _ h => h) (by kernel_rfl) (fun v => ?_) ?_
        rotate_left
        · (go_simp; all_goals rfl)
        simp only [Act.put]
        refine tame0 (k := 15) ?_ rfl (by kernel_rfl) (by kernel_rfl) (by kernel_rfl) (fun _ _ _ h => h) (by kernel_rfl) (fun v => ?_) ?_
        rotate_left
        · (go_simp; all_goals rfl)
        simp only [Act.put]
        refine tame_one (k := 4) (by kernel_rfl) rfl (by kernel_rfl) ?_
        go_simp
        refine (l6Value_c u d k (some ⟨ad.block, ad.off + 1, none⟩) (xs.drop 1) (c - 1) _ (HD.out.below hd2 (Nat.le_refl _)) HW1.out (by have := HLn.out; simp; omega)).mono ?_
        rintro e w1 ⟨rfl, b1⟩
        rw [HE1.out]
        have hd2_1 := bUp hd2 b1 (Nat.le_refl _)
        have hS2_1 := Lib.hid (SK2.out _ hd2_1)
        refine ⟨by first | exact hS2_1 | exact Hid.out hS2_1, ?_⟩
        refine tame_one (k := 10) (by kernel_rfl) rfl (by kernel_rfl) ?_
        go_simp
        refine (l6Value_c u d k (some ad) (xs.take (k + 1)) (c) _ (HT.out.below hd2_1 (Nat.le_refl _)) HW2.out (by have := HLn.out; simp; omega)).mono ?_
        rintro e w2 ⟨rfl, b2⟩
        rw [HE2.out]
        have hd2_2 := bUp hd2_1 b2 hd2_1.size
        have hS2_2 := Lib.hid (SK2.out _ hd2_2)
        refine ⟨by first | exact hS2_2 | exact Hid.out hS2_2, ?_⟩
        refine tame0 (k := 11) ?_ rfl (by kernel_rfl) (by kernel_rfl) (by kernel_rfl) (fun _ _ _ h => h) (by kernel_rfl) (fun v => ?_) ?_
        rotate_left
        · (go_simp; all_goals rfl)
        simp only [Act.put]
        refine tame_one (k := 16) (by kernel_rfl) rfl (by kernel_rfl) ?_
        go_simp
        refine (l6Power_c (u + d) (k + 1) (by omega) hs.1 hs.2 _).mono ?_
        rintro e w' ⟨rfl, rfl⟩
        refine ⟨by first | exact hS2_2 | exact Hid.out hS2_2, ?_⟩
        refine tame_one (k := 17) (by kernel_rfl) rfl (by kernel_rfl) ?_
        go_simp
        refine (l2Cut_c (x - y) (pw (u + d) (k + 1)) HF.out.a1 HF.out.a2 HF.out.b1 HF.out.b2 w2).mono ?_
        rintro e w3 ⟨rfl, b3⟩
        have hd2_3 := bUp hd2_2 b3 hd2_2.size
        have hS2_3 := Lib.hid (SK2.out _ hd2_3)
        refine ⟨by first | exact hS2_3 | exact Hid.out hS2_3, ?_⟩
        have CK := l2Kept_c (cutT (x - y) (pw (u + d) (k + 1))) (cutB (x - y) (pw (u + d) (k + 1))) HF.out.c1 HF.out.c2 w3
        rw [show kpT (cutT (x - y) (pw (u + d) (k + 1))) (cutB (x - y) (pw (u + d) (k + 1))) = cutT (x - y) (pw (u + d) (k + 1)) from HF.out.t, show kpB (cutT (x - y) (pw (u + d) (k + 1))) (cutB (x - y) (pw (u + d) (k + 1))) = cutB (x - y) (pw (u + d) (k + 1)) from HF.out.u, show fracB (cutT (x - y) (pw (u + d) (k + 1))) (cutB (x - y) (pw (u + d) (k + 1))) = true from HF.out.ok] at CK
        refine tame_one (k := 18) (by kernel_rfl) rfl (by kernel_rfl) ?_
        go_simp
        refine (CK).mono ?_
        rintro e w4 ⟨rfl, b4⟩
        have hd2_4 := bUp hd2_3 b4 hd2_3.size
        have hS2_4 := Lib.hid (SK2.out _ hd2_4)
        refine ⟨by first | exact hS2_4 | exact Hid.out hS2_4, ?_⟩
        refine tame0 (k := 19) ?_ rfl (by kernel_rfl) (by kernel_rfl) (by kernel_rfl) (fun _ _ _ h => h) (by kernel_rfl) (fun v => ?_) ?_
        rotate_left
        · (go_simp; all_goals rfl)
        simp only [Act.put]
        refine tame0 (k := 20) ?_ rfl (by kernel_rfl) (by kernel_rfl) (by kernel_rfl) (fun _ _ _ h => h) (by kernel_rfl) (fun v => ?_) ?_
        rotate_left
        · (go_simp; all_goals rfl)
        simp only [Act.put]
        have HBz := bUp HB0 hd2_4 HB0.size
        obtain ⟨z0, z1, y0, y1, hz⟩ := B0.below hd2_4
        refine tame_one (k := 21) (by kernel_rfl) rfl (by kernel_rfl) ?_
        go_simp
        try (refine ⟨fun h => absurd h (by decide), ?_⟩)
        refine tame_one (k := 22) (by kernel_rfl) rfl (by kernel_rfl) ?_
        go_simp
        try (refine ⟨fun h => absurd h (by decide), ?_⟩)
        refine tame_end (by kernel_rfl) ?_
        go_wp2_with fail
        exact bodyPost_ret (v := .tuple #[.agg #[.int .i64 (cutT (x - y) (pw (u + d) (k + 1))), .int .i64 (cutB (x - y) (pw (u + d) (k + 1)))], .bool true]) (by simp [results, Try.results42, go_sem, z0, z1]) rfl ⟨rfl, by with_reducible repeat (first | exact HBz | refine Below.setCell ?_ (by simp) _)⟩

end Go.Proofs.Ytnhclpajfejnoaa
