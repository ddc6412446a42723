/- The laws' own comparisons. (Written by gen_vw.py.) -/
import Derived.Test.YtnhclpajfejnoaaLaws
import Derived.Test.YtnhclpajfejnoaaButA
import Derived.Test.YtnhclpajfejnoaaPairs
import Derived.Test.YtnhclpajfejnoaaFracB
import Derived.Deep.DeepCutAuto
namespace Go.Proofs.Ytnhclpajfejnoaa
open Go.RowKit

theorem pairAd (a : Addr) (i j : Nat) (hj : 0 < j) : ({ block := (a.add i).block, off := (a.add i).off + j } : Addr) = a.add (i + j) := by
  unfold Addr.add
  by_cases hi : i = 0 <;> simp [hi, Nat.add_assoc] <;> omega
theorem pairOff {w : World} {a : Addr} {i : Nat} {v : Value} (j : Nat) (hj : 0 < j) (h : w.cell? (a.add (i + j)) = some v) : w.cell? { block := (a.add i).block, off := (a.add i).off + j } = some v := by
  rw [pairAd a i j hj]
  exact h
theorem pair_eq (a b c d : Int) (w : World) : (Op.equalIn 10000 40 (.agg #[.int .i64 a, .int .i64 b]) (.agg #[.int .i64 c, .int .i64 d])).run Try.prog w = .ok (a == c && b == d) w := by
  have u3 := Try.underlying3
  have a3 := Try.isAgg3
  have z3 := Try.sizeOf3
  rw [show (10000 : Nat) = 9999 + 1 from rfl, Op.equalIn]
  simp only [Sem.run_bind, run_underlying Try.underlying40, Result.andThen_ok]
  simp only [Std.Legacy.Range.forIn_eq_forIn_range', Std.Legacy.Range.size, Nat.sub_zero, Nat.add_sub_cancel, Nat.div_one, List.range'_succ, List.range'_zero, List.forIn_cons, List.forIn_nil]
  go_simp
  by_cases h1 : a = c <;> by_cases h2 : b = d <;> simp [h1, h2]
set_option maxRecDepth 20000 in
set_option maxHeartbeats 1000000 in
theorem rInts_same (A B : Option Addr) (xs : List Int) (n m ca cb : Nat) (w : World) (hn : n = xs.length) (hm : m = xs.length) (ha : Rd w A (ints xs)) (hb : Rd w B (ints xs)) (hl : xs.length ≤ 16777216) :
    Calls Try.prog 11 #[.slice A n ca, .slice B m cb] w (Quietly w (.bool true)) := by
  subst hn hm
  go_enter Try.func11, Try.ntmps11
  go_wp2
  go_loopw [5] (fun i wr => ∃ k : Nat, k ≤ xs.length ∧ i = .int .i64 k ∧ Below w.heap.size w wr) (fun i _ => xs.length - (intOf i).toNat)
  case atStart => exact ⟨0, by omega, rfl, Below.refl _ _⟩
  case round =>
    obtain ⟨v, rfl⟩ : ∃ v : World, v = wr := ⟨_, rfl⟩
    obtain ⟨k, hk, rfl, HB⟩ := hrel
    by_cases hlt : k < xs.length
    · obtain ⟨a, rfl, q1⟩ := (ha.below HB (Nat.le_refl _)).intN hlt
      obtain ⟨b, rfl, q2⟩ := (hb.below HB (Nat.le_refl _)).intN hlt
      go_upto_region 6 with fail
      have hd2 : Below v.heap.size v v.drew := Below.drew (Below.refl _ _)
      have SK2 : Hid (∀ w', Below v.heap.size v w' → w'.cell? (a.add k) = some (.int .i64 (nth xs k)) ∧ w'.cell? (b.add k) = some (.int .i64 (nth xs k))) := Lib.hid fun w' HV => ⟨(HV.cell (cell_lt q1)).trans q1, (HV.cell (cell_lt q2)).trans q2⟩
      clear q1 q2
      have hS2_0 := SK2.out _ hd2
      refine tamed_region (S := fun w' => w'.cell? (a.add k) = some (.int .i64 (nth xs k)) ∧ w'.cell? (b.add k) = some (.int .i64 (nth xs k))) (fun _ => false) (by kernel_rfl) ?_
      refine tame0 (k := 0) ?_ rfl (by kernel_rfl) (by kernel_rfl) (by kernel_rfl) (fun _ _ _ h => h) (by kernel_rfl) (fun v => ?_) ?_
      rotate_left
      · (go_simp; all_goals rfl)
      simp only [Act.put, List.setIfInBounds_toArray]
      refine tame0 (k := 1) ?_ rfl (by kernel_rfl) (by kernel_rfl) (by kernel_rfl) (fun _ _ _ h => h) (by kernel_rfl) (fun v => ?_) ?_
      rotate_left
      · (go_simp; all_goals rfl)
      simp only [Act.put]
      refine tame0 (k := 2) ?_ rfl (by kernel_rfl) (by kernel_rfl) (by kernel_rfl) (fun _ _ _ h => h) (by kernel_rfl) (fun v => ?_) ?_
      rotate_left
      · (go_simp; all_goals rfl)
      simp only [Act.put]
      refine tame (k := 3) ?_ rfl (by kernel_rfl) (by kernel_rfl) (by kernel_rfl) (by kernel_rfl) (fun _ _ _ h => h) (by kernel_rfl) hS2_0 (fun v hv => ?_) ?_
      rotate_left
      · (obtain ⟨k1, k2⟩ := hv; go_simp; all_goals rfl)
      simp only [Act.put]
      refine tame0 (k := 4) ?_ rfl (by kernel_rfl) (by kernel_rfl) (by kernel_rfl) (fun _ _ _ h => h) (by kernel_rfl) (fun v => ?_) ?_
      rotate_left
      · (go_simp; all_goals rfl)
      simp only [Act.put]
      refine tame0 (k := 5) ?_ rfl (by kernel_rfl) (by kernel_rfl) (by kernel_rfl) (fun _ _ _ h => h) (by kernel_rfl) (fun v => ?_) ?_
      rotate_left
      · (go_simp; all_goals rfl)
      simp only [Act.put]
      refine tame0 (k := 6) ?_ rfl (by kernel_rfl) (by kernel_rfl) (by kernel_rfl) (fun _ _ _ h => h) (by kernel_rfl) (fun v => ?_) ?_
      rotate_left
      · (go_simp; all_goals rfl)
      simp only [Act.put]
      refine tame (k := 7) ?_ rfl (by kernel_rfl) (by kernel_rfl) (by kernel_rfl) (by kernel_rfl) (fun _ _ _ h => h) (by kernel_rfl) hS2_0 (fun v hv => ?_) ?_
      rotate_left
      · (obtain ⟨k1, k2⟩ := hv; go_simp; all_goals rfl)
      simp only [Act.put]
      have hS2_0v := Lib.hid hS2_0
      clear hS2_0
      refine tame_one (k := 8) (by kernel_rfl) rfl (by kernel_rfl) ?_
      go_simp
      refine ⟨by first | exact hS2_0v | exact Hid.out hS2_0v, ?_⟩
      refine tame_end (by kernel_rfl) ?_
      go_wp2
      go_roundw
      case rel => exact ⟨k + 1, by omega, by go_num, bUp HB hd2 HB.size⟩
      case measure => simp [intOf] <;> omega
    · obtain rfl : k = xs.length := by omega
      go_wp2
      go_ret
      exact ⟨rfl, HB⟩
set_option maxRecDepth 20000 in
set_option maxHeartbeats 1000000 in
theorem rFracs_same (A B : Option Addr) (ps : List (Int × Int)) (n m ca cb : Nat) (w : World) (hn : n = ps.length) (hm : m = ps.length) (ha : Rd w A (pcells ps)) (hb : Rd w B (pcells ps)) (hl : ps.length ≤ 16777216) :
    Calls Try.prog 19 #[.slice A n ca, .slice B m cb] w (Quietly w (.bool true)) := by
  subst hn hm
  go_enter Try.func19, Try.ntmps19
  go_wp2
  go_loopw [5] (fun i wr => ∃ k : Nat, k ≤ ps.length ∧ i = .int .i64 k ∧ Below w.heap.size w wr) (fun i _ => ps.length - (intOf i).toNat)
  case atStart => exact ⟨0, by omega, rfl, Below.refl _ _⟩
  case round =>
    obtain ⟨v, rfl⟩ : ∃ v : World, v = wr := ⟨_, rfl⟩
    obtain ⟨k, hk, rfl, HB⟩ := hrel
    by_cases hlt : k < ps.length
    · obtain ⟨y0, y1⟩ := pcells_get ps k hlt
      obtain ⟨a, rfl, q1⟩ := (ha.below HB (Nat.le_refl _)) _ _ y0
      obtain ⟨_, e, q2⟩ := (ha.below HB (Nat.le_refl _)) _ _ y1
      injection e with e
      subst e
      obtain ⟨b, rfl, q3⟩ := (hb.below HB (Nat.le_refl _)) _ _ y0
      obtain ⟨_, e, q4⟩ := (hb.below HB (Nat.le_refl _)) _ _ y1
      injection e with e
      subst e
      have q2' := pairOff 1 (by omega) q2
      have q4' := pairOff 1 (by omega) q4
      clear y0 y1 q2 q4
      generalize pT ps k = x at *
      generalize pB ps k = y at *
      have hpe := fun (w : World) => pair_eq x y x y w
      simp only [beq_self_eq_true, Bool.and_self] at hpe
      go_upto_region 6 with fail
      have hd4 : Below v.heap.size v v.drew := Below.drew (Below.refl _ _)
      have SK4 : Hid (∀ w', Below v.heap.size v w' → w'.cell? (a.add (k * 2)) = some (.int .i64 x) ∧ w'.cell? ⟨(a.add (k * 2)).block, (a.add (k * 2)).off + 1, none⟩ = some (.int .i64 y) ∧ w'.cell? (b.add (k * 2)) = some (.int .i64 x) ∧ w'.cell? ⟨(b.add (k * 2)).block, (b.add (k * 2)).off + 1, none⟩ = some (.int .i64 y)) := Lib.hid fun w' HV => ⟨(HV.cell (cell_lt q1)).trans q1, (HV.cell (cell_lt q2')).trans q2', (HV.cell (cell_lt q3)).trans q3, (HV.cell (cell_lt q4')).trans q4'⟩
      clear q1 q2' q3 q4'
      have hS4_0 := SK4.out _ hd4
      refine tamed_region (S := fun w' => w'.cell? (a.add (k * 2)) = some (.int .i64 x) ∧ w'.cell? ⟨(a.add (k * 2)).block, (a.add (k * 2)).off + 1, none⟩ = some (.int .i64 y) ∧ w'.cell? (b.add (k * 2)) = some (.int .i64 x) ∧ w'.cell? ⟨(b.add (k * 2)).block, (b.add (k * 2)).off + 1, none⟩ = some (.int .i64 y)) (fun _ => false) (by kernel_rfl) ?_
      refine tame0 (k := 0) ?_ rfl (by kernel_rfl) (by kernel_rfl) (by kernel_rfl) (fun _ _ _ h => h) (by kernel_rfl) (fun v => ?_) ?_
      rotate_left
      · (go_simp; all_goals rfl)
      simp only [Act.put, List.setIfInBounds_toArray]
      refine tame0 (k := 1) ?_ rfl (by kernel_rfl) (by kernel_rfl) (by kernel_rfl) (fun _ _ _ h => h) (by kernel_rfl) (fun v => ?_) ?_
      rotate_left
      · (go_simp; all_goals rfl)
      simp only [Act.put]
      refine tame0 (k := 2) ?_ rfl (by kernel_rfl) (by kernel_rfl) (by kernel_rfl) (fun _ _ _ h => h) (by kernel_rfl) (fun v => ?_) ?_
      rotate_left
      · (go_simp; all_goals rfl)
      simp only [Act.put]
      refine tame (k := 3) ?_ rfl (by kernel_rfl) (by kernel_rfl) (by kernel_rfl) (by kernel_rfl) (fun _ _ _ h => h) (by kernel_rfl) hS4_0 (fun v hv => ?_) ?_
      rotate_left
      · (obtain ⟨k1, k2, k3, k4⟩ := hv; go_simp; all_goals rfl)
      simp only [Act.put]
      refine tame0 (k := 4) ?_ rfl (by kernel_rfl) (by kernel_rfl) (by kernel_rfl) (fun _ _ _ h => h) (by kernel_rfl) (fun v => ?_) ?_
      rotate_left
      · (go_simp; all_goals rfl)
      simp only [Act.put]
      refine tame0 (k := 5) ?_ rfl (by kernel_rfl) (by kernel_rfl) (by kernel_rfl) (fun _ _ _ h => h) (by kernel_rfl) (fun v => ?_) ?_
      rotate_left
      · (go_simp; all_goals rfl)
      simp only [Act.put]
      refine tame0 (k := 6) ?_ rfl (by kernel_rfl) (by kernel_rfl) (by kernel_rfl) (fun _ _ _ h => h) (by kernel_rfl) (fun v => ?_) ?_
      rotate_left
      · (go_simp; all_goals rfl)
      simp only [Act.put]
      refine tame (k := 7) ?_ rfl (by kernel_rfl) (by kernel_rfl) (by kernel_rfl) (by kernel_rfl) (fun _ _ _ h => h) (by kernel_rfl) hS4_0 (fun v hv => ?_) ?_
      rotate_left
      · (obtain ⟨k1, k2, k3, k4⟩ := hv; go_simp; all_goals rfl)
      simp only [Act.put]
      have hS4_0v := Lib.hid hS4_0
      clear hS4_0
      refine tame_one (k := 8) (by kernel_rfl) rfl (by kernel_rfl) ?_
      go_simp
      refine ⟨by first | exact hS4_0v | exact Hid.out hS4_0v, ?_⟩
      refine tame_end (by kernel_rfl) ?_
      go_wp2
      go_roundw
      case rel => exact ⟨k + 1, by omega, by go_num, bUp HB hd4 HB.size⟩
      case measure => simp [intOf] <;> omega
    · obtain rfl : k = ps.length := by omega
      go_wp2
      go_ret
      exact ⟨rfl, HB⟩
set_option maxRecDepth 20000 in
set_option maxHeartbeats 1000000 in
theorem rLess_is (a b c d : Int) (q : Bool) (hq : decide (a * d < c * b) = q) (ha : -2000000000 ≤ a ∧ a ≤ 2000000000) (hb : 0 ≤ b ∧ b ≤ 1000000) (hc : -2000000000 ≤ c ∧ c ≤ 2000000000) (hd : 0 ≤ d ∧ d ≤ 1000000) (w : World) :
    Calls Try.prog 22 #[.agg #[.int .i64 a, .int .i64 b], .agg #[.int .i64 c, .int .i64 d]] w (Quietly w (.bool q)) := by
  have m1 := mulA_bd (x := a) (y := d) (A := 2000000000) (B := 1000000) ha.1 ha.2 hd.1 hd.2 (by decide)
  have m2 := mulA_bd (x := c) (y := b) (A := 2000000000) (B := 1000000) hc.1 hc.2 hb.1 hb.2 (by decide)
  have e1 : IntKind.i64.wrap (a * d) = a * d := IntWalk.i64_in _ (by omega)
  have e2 : IntKind.i64.wrap (c * b) = c * b := IntWalk.i64_in _ (by omega)
  have HB1 : Below w.heap.size w ((w.alloc (.cells #[.int .i64 a, .int .i64 b] 40)).alloc (.cells #[.int .i64 c, .int .i64 d] 40)) := ((Below.refl _ _).alloc (Nat.le_refl _) _).alloc (by simp) _
  subst hq
  go_enter Try.func22, Try.ntmps22
  go_wp2
  go_ret
  exact ⟨rfl, HB1⟩
end Go.Proofs.Ytnhclpajfejnoaa
