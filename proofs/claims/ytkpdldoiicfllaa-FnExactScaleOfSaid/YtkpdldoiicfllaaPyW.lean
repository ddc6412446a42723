/- Arms that are played: their scale at any places. (Written by gen_pyw.py.) -/
import Derived.Test.YtkpdldoiicfllaaSS
import Derived.Test.YtkpdldoiicfllaaPlayL
import Derived.Test.YtkpdldoiicfllaaLvW
import Derived.Test.YtkpdldoiicfllaaTamM
namespace Go.Proofs.Ytkpdldoiicfllaa
open Go.RowKit

theorem power12 (b e p : Int) (h0 : 0 ≤ b) (h4 : b ≤ 4) (he0 : 0 ≤ e) (he : e ≤ 12) (hp : pw b e.toNat = p) (w : World) :
    Calls Try.prog 51 #[.int .i64 b, .int .i64 e] w fun e w' => e = .returned (.int .i64 p) ∧ w = w' := by
  have C := power_c b e.toNat (by omega) h0 (fun j hj => by have := (pw_bd 4 12 16777216 (by decide) h0 h4 (by decide) (k := j) (by omega)).2; omega) w
  rw [Int.toNat_of_nonneg he0, hp] at C
  exact C
set_option maxRecDepth 20000 in
set_option maxHeartbeats 2000000 in
theorem scale_c (p n : Nat) (A : Option Addr) (c : Nat) (AS : Option Addr) (cS : Nat) (AL : Option Addr) (cL : Nat) (S T : List (List Int)) (b : Int) (X : Nat → Nat) (w : World)
    (f0 : w.cell? ⟨p, 0, none⟩ = some (.slice A n c)) (f2 : w.cell? ⟨p, 2, none⟩ = some (.int .i64 b)) (f3 : w.cell? ⟨p, 3, none⟩ = some (.slice AS n cS)) (f4 : w.cell? ⟨p, 4, none⟩ = some (.slice AL n cL))
    (rS : RdSS w AS S) (rT : RdSS w AL T) (hok : ScOk S T X n) (h0 : 0 ≤ b) (h4 : b ≤ 4) :
    Calls Try.prog 24 #[.pointer (some ⟨p, 0, none⟩), .agg #[.int .i64 (X 0 : Nat), .int .i64 (X 1 : Nat), .int .i64 (X 2 : Nat)]] w (Quietly w (.int .i64 (prTo S X n * pw b (suTo T X n).toNat))) := by
  have hn3 := hok.n3
  have HB1 : Below w.heap.size w (w.alloc (.cells #[.int .i64 (X 0 : Nat), .int .i64 (X 1 : Nat), .int .i64 (X 2 : Nat)] 45)) := (Below.refl _ _).alloc (Nat.le_refl _) _
  have bx := Bx3.new w (.int .i64 (X 0 : Nat)) (.int .i64 (X 1 : Nat)) (.int .i64 (X 2 : Nat)) 45
  have k0 := (HB1.cell (cell_lt f0)).trans f0
  have k2 := (HB1.cell (cell_lt f2)).trans f2
  have k3 := (HB1.cell (cell_lt f3)).trans f3
  have k4 := (HB1.cell (cell_lt f4)).trans f4
  have sS := rS.below HB1 (Nat.le_refl _)
  have sT := rT.below HB1 (Nat.le_refl _)
  clear f0 f2 f3 f4 rS rT
  go_enter Try.func24, Try.ntmps24
  go_wp2_with fail
  generalize hu : w.alloc (.cells #[.int .i64 (X 0 : Nat), .int .i64 (X 1 : Nat), .int .i64 (X 2 : Nat)] 45) = u at *
  have hx : w.heap.size < u.heap.size := bx.2.2.2
  have hX : ∀ k, k < n → u.cell? ⟨w.heap.size, k, none⟩ = some (.int .i64 (X k : Nat)) := fun k hk => by
    match k, Nat.lt_of_lt_of_le hk hn3 with
    | 0, _ => exact bx.1
    | 1, _ => exact bx.2.1
    | 2, _ => exact bx.2.2.1
  have HX := Lib.hid hX
  clear hu bx hX
  go_wp2_with fail
  go_loopw [5, 6, 13] (fun o l i wr => ∃ k : Nat, k ≤ n ∧ i = .int .i64 (k : Int) ∧ o = .int .i64 (prTo S X k) ∧ l = .int .i64 (suTo T X k) ∧ Below u.heap.size u wr) (fun _ _ i _ => n - (intOf i).toNat)
  case atStart => exact ⟨0, by omega, rfl, rfl, rfl, Below.refl _ _⟩
  case round =>
    obtain ⟨v, rfl⟩ : ∃ v : World, v = wr := ⟨_, rfl⟩
    obtain ⟨k, hk, rfl, rfl, rfl, HB⟩ := hrel
    have g1 := hok.pr k hk
    have g2 := hok.su k hk
    by_cases hlt : k < n
    · have hk3 : (k : Int) < 3 := by omega
      obtain ⟨hx1, hx2⟩ := hok.pl k hlt
      have bx := (HB.cell (p := ⟨w.heap.size, k, none⟩) hx).trans (HX.out k hlt)
      have k3' := (HB.cell (cell_lt k3)).trans k3
      have k4' := (HB.cell (cell_lt k4)).trans k4
      obtain ⟨az, R, cr, rfl, q1, r1⟩ := (sS.below HB (Nat.le_refl _)) k (by rw [hok.lS]; exact hlt)
      obtain ⟨ar, rfl, q2⟩ := r1.intN hx1
      obtain ⟨al, R2, cr2, rfl, q3, r2⟩ := (sT.below HB (Nat.le_refl _)) k (by rw [hok.lT]; exact hlt)
      obtain ⟨ar2, rfl, q4⟩ := r2.intN hx2
      have ep : prTo S X (k + 1) = prTo S X k * nth (rowAt S k) (X k) := rfl
      have eu : suTo T X (k + 1) = suTo T X k + nth (rowAt T k) (X k) := rfl
      have g1' := hok.pr (k + 1) hlt
      have g2' := hok.su (k + 1) hlt
      have e1 : IntKind.i64.wrap (prTo S X k * nth (rowAt S k) (X k)) = prTo S X k * nth (rowAt S k) (X k) := IntWalk.i64_in _ (by rw [← ep]; omega)
      have e2 : IntKind.i64.wrap (suTo T X k + nth (rowAt T k) (X k)) = suTo T X k + nth (rowAt T k) (X k) := IntWalk.i64_in _ (by rw [← eu]; omega)
      generalize hrl : (rowAt S k).length = rl at *
      generalize hrl2 : (rowAt T k).length = rl2 at *
      have K6 := Lib.hid (And.intro k4' (And.intro q3 (And.intro bx q4)))
      go_wp2
      have hd1 : Below v.heap.size v v.drew := Below.drew (Below.refl _ _)
      have SK1 : Hid (∀ w', Below v.heap.size v w' → w'.cell? ⟨p, 3, none⟩ = some (.slice (some az) n cS) ∧ w'.cell? (az.add k) = some (.slice (some ar) rl cr) ∧ w'.cell? ⟨w.heap.size, k, none⟩ = some (.int .i64 (X k : Nat)) ∧ w'.cell? (ar.add (X k)) = some (.int .i64 (nth (rowAt S k) (X k)))) := Lib.hid fun w' HV => ⟨(HV.cell (cell_lt k3')).trans k3', (HV.cell (cell_lt q1)).trans q1, (HV.cell (cell_lt bx)).trans bx, (HV.cell (cell_lt q2)).trans q2⟩
      clear k3' q1 bx q2 k4' q3 q4
      have hS1_0 := SK1.out _ hd1
      refine tamed_region (S := fun w' => w'.cell? ⟨p, 3, none⟩ = some (.slice (some az) n cS) ∧ w'.cell? (az.add k) = some (.slice (some ar) rl cr) ∧ w'.cell? ⟨w.heap.size, k, none⟩ = some (.int .i64 (X k : Nat)) ∧ w'.cell? (ar.add (X k)) = some (.int .i64 (nth (rowAt S k) (X k)))) (fun _ => false) (by kernel_rfl) ?_
      refine tame0 (k := 0) ?_ rfl (by kernel_rfl) (by kernel_rfl) (by kernel_rfl) (fun _ _ _ h => h) (by kernel_rfl) (fun v => ?_) ?_
      rotate_left
      · (go_simp; all_goals rfl)
      simp only [Act.put, List.setIfInBounds_toArray]
      refine tame0 (k := 1) ?_ rfl (by kernel_rfl) (by kernel_rfl) (by kernel_rfl) (fun _ _ _ h => h) (by kernel_rfl) (fun v => ?_) ?_
      rotate_left
      · (go_simp; all_goals rfl)
      simp only [Act.put]
      refine tame0 (k := 2) ?_ rfl (by kernel_rfl) (by kernel_rfl) (by kernel_rfl) (fun _ _ _ h => h) (by kernel_rfl) (fun v => ?_) ?_
      rotate_left
      · (go_simp; all_goals rfl)
      simp only [Act.put]
      refine tame0 (k := 3) ?_ rfl (by kernel_rfl) (by kernel_rfl) (by kernel_rfl) (fun _ _ _ h => h) (by kernel_rfl) (fun v => ?_) ?_
      rotate_left
      · (go_simp; all_goals rfl)
      simp only [Act.put]
      refine tame (k := 4) ?_ rfl (by kernel_rfl) (by kernel_rfl) (by kernel_rfl) (by kernel_rfl) (fun _ _ _ h => h) (by kernel_rfl) hS1_0 (fun v hv => ?_) ?_
      rotate_left
      · (obtain ⟨k1, k2, k3, k4⟩ := hv; go_simp; all_goals rfl)
      simp only [Act.put]
      refine tame0 (k := 5) ?_ rfl (by kernel_rfl) (by kernel_rfl) (by kernel_rfl) (fun _ _ _ h => h) (by kernel_rfl) (fun v => ?_) ?_
      rotate_left
      · (go_simp; all_goals rfl)
      simp only [Act.put]
      refine tame0 (k := 6) ?_ rfl (by kernel_rfl) (by kernel_rfl) (by kernel_rfl) (fun _ _ _ h => h) (by kernel_rfl) (fun v => ?_) ?_
      rotate_left
      · (go_simp; all_goals rfl)
      simp only [Act.put]
      refine tame (k := 7) ?_ rfl (by kernel_rfl) (by kernel_rfl) (by kernel_rfl) (by kernel_rfl) (fun _ _ _ h => h) (by kernel_rfl) hS1_0 (fun v hv => ?_) ?_
      rotate_left
      · (obtain ⟨k1, k2, k3, k4⟩ := hv; go_simp; all_goals rfl)
      simp only [Act.put]
      refine tame0 (k := 8) ?_ rfl (by kernel_rfl) (by kernel_rfl) (by kernel_rfl) (fun _ _ _ h => h) (by kernel_rfl) (fun v => ?_) ?_
      rotate_left
      · (go_simp; all_goals rfl)
      simp only [Act.put]
      refine tame0 (k := 9) ?_ rfl (by kernel_rfl) (by kernel_rfl) (by kernel_rfl) (fun _ _ _ h => h) (by kernel_rfl) (fun v => ?_) ?_
      rotate_left
      · (go_simp; all_goals rfl)
      simp only [Act.put]
      refine tame (k := 10) ?_ rfl (by kernel_rfl) (by kernel_rfl) (by kernel_rfl) (by kernel_rfl) (fun _ _ _ h => h) (by kernel_rfl) hS1_0 (fun v hv => ?_) ?_
      rotate_left
      · (obtain ⟨k1, k2, k3, k4⟩ := hv; go_simp; all_goals rfl)
      simp only [Act.put]
      refine tame0 (k := 11) ?_ rfl (by kernel_rfl) (by kernel_rfl) (by kernel_rfl) (fun _ _ _ h => h) (by kernel_rfl) (fun v => ?_) ?_
      rotate_left
      · (go_simp; all_goals rfl)
      simp only [Act.put]
      refine tame (k := 12) ?_ rfl (by kernel_rfl) (by kernel_rfl) (by kernel_rfl) (by kernel_rfl) (fun _ _ _ h => h) (by kernel_rfl) hS1_0 (fun v hv => ?_) ?_
      rotate_left
      · (obtain ⟨k1, k2, k3, k4⟩ := hv; go_simp; all_goals rfl)
      simp only [Act.put]
      refine tame0 (k := 13) ?_ rfl (by kernel_rfl) (by kernel_rfl) (by kernel_rfl) (fun _ _ _ h => h) (by kernel_rfl) (fun v => ?_) ?_
      rotate_left
      · (go_simp; all_goals rfl)
      simp only [Act.put]
      have hS1_0v := Lib.hid hS1_0
      clear hS1_0
      refine tame_one (k := 14) (by kernel_rfl) rfl (by kernel_rfl) ?_
      go_simp
      refine ⟨by first | exact hS1_0v | exact Hid.out hS1_0v, ?_⟩
      refine tame_end (by kernel_rfl) ?_
      have HB2 : Below u.heap.size u v.drew := bUp HB (Below.drew (Below.refl _ _)) HB.size
      obtain ⟨n1, n2, n3, n4⟩ : v.drew.cell? ⟨p, 4, none⟩ = some (.slice (some al) n cL) ∧ v.drew.cell? (al.add k) = some (.slice (some ar2) rl2 cr2) ∧ v.drew.cell? ⟨w.heap.size, k, none⟩ = some (.int .i64 (X k : Nat)) ∧ v.drew.cell? (ar2.add (X k)) = some (.int .i64 (nth (rowAt T k) (X k))) := K6.out
      generalize v.drew = v2 at *
      clear K6 HB
      go_wp2
      have hd2 : Below v2.heap.size v2 v2.drew := Below.drew (Below.refl _ _)
      have SK2 : Hid (∀ w', Below v2.heap.size v2 w' → w'.cell? ⟨p, 4, none⟩ = some (.slice (some al) n cL) ∧ w'.cell? (al.add k) = some (.slice (some ar2) rl2 cr2) ∧ w'.cell? ⟨w.heap.size, k, none⟩ = some (.int .i64 (X k : Nat)) ∧ w'.cell? (ar2.add (X k)) = some (.int .i64 (nth (rowAt T k) (X k)))) := Lib.hid fun w' HV => ⟨(HV.cell (cell_lt n1)).trans n1, (HV.cell (cell_lt n2)).trans n2, (HV.cell (cell_lt n3)).trans n3, (HV.cell (cell_lt n4)).trans n4⟩
      clear n1 n2 n3 n4
      have hS2_0 := SK2.out _ hd2
      refine tamed_region (S := fun w' => w'.cell? ⟨p, 4, none⟩ = some (.slice (some al) n cL) ∧ w'.cell? (al.add k) = some (.slice (some ar2) rl2 cr2) ∧ w'.cell? ⟨w.heap.size, k, none⟩ = some (.int .i64 (X k : Nat)) ∧ w'.cell? (ar2.add (X k)) = some (.int .i64 (nth (rowAt T k) (X k)))) (fun _ => false) (by kernel_rfl) ?_
      refine tame0 (k := 0) ?_ rfl (by kernel_rfl) (by kernel_rfl) (by kernel_rfl) (fun _ _ _ h => h) (by kernel_rfl) (fun v => ?_) ?_
      rotate_left
      · (go_simp; all_goals rfl)
      simp only [Act.put, List.setIfInBounds_toArray]
      refine tame0 (k := 1) ?_ rfl (by kernel_rfl) (by kernel_rfl) (by kernel_rfl) (fun _ _ _ h => h) (by kernel_rfl) (fun v => ?_) ?_
      rotate_left
      · (go_simp; all_goals rfl)
      simp only [Act.put]
      refine tame0 (k := 2) ?_ rfl (by kernel_rfl) (by kernel_rfl) (by kernel_rfl) (fun _ _ _ h => h) (by kernel_rfl) (fun v => ?_) ?_
      rotate_left
      · (go_simp; all_goals rfl)
      simp only [Act.put]
      refine tame0 (k := 3) ?_ rfl (by kernel_rfl) (by kernel_rfl) (by kernel_rfl) (fun _ _ _ h => h) (by kernel_rfl) (fun v => ?_) ?_
      rotate_left
      · (go_simp; all_goals rfl)
      simp only [Act.put]
      refine tame (k := 4) ?_ rfl (by kernel_rfl) (by kernel_rfl) (by kernel_rfl) (by kernel_rfl) (fun _ _ _ h => h) (by kernel_rfl) hS2_0 (fun v hv => ?_) ?_
      rotate_left
      · (obtain ⟨k1, k2, k3, k4⟩ := hv; go_simp; all_goals rfl)
      simp only [Act.put]
      refine tame0 (k := 5) ?_ rfl (by kernel_rfl) (by kernel_rfl) (by kernel_rfl) (fun _ _ _ h => h) (by kernel_rfl) (fun v => ?_) ?_
      rotate_left
      · (go_simp; all_goals rfl)
      simp only [Act.put]
      refine tame0 (k := 6) ?_ rfl (by kernel_rfl) (by kernel_rfl) (by kernel_rfl) (fun _ _ _ h => h) (by kernel_rfl) (fun v => ?_) ?_
      rotate_left
      · (go_simp; all_goals rfl)
      simp only [Act.put]
      refine tame (k := 7) ?_ rfl (by kernel_rfl) (by kernel_rfl) (by kernel_rfl) (by kernel_rfl) (fun _ _ _ h => h) (by kernel_rfl) hS2_0 (fun v hv => ?_) ?_
      rotate_left
      · (obtain ⟨k1, k2, k3, k4⟩ := hv; go_simp; all_goals rfl)
      simp only [Act.put]
      refine tame0 (k := 8) ?_ rfl (by kernel_rfl) (by kernel_rfl) (by kernel_rfl) (fun _ _ _ h => h) (by kernel_rfl) (fun v => ?_) ?_
      rotate_left
      · (go_simp; all_goals rfl)
      simp only [Act.put]
      refine tame0 (k := 9) ?_ rfl (by kernel_rfl) (by kernel_rfl) (by kernel_rfl) (fun _ _ _ h => h) (by kernel_rfl) (fun v => ?_) ?_
      rotate_left
      · (go_simp; all_goals rfl)
      simp only [Act.put]
      refine tame (k := 10) ?_ rfl (by kernel_rfl) (by kernel_rfl) (by kernel_rfl) (by kernel_rfl) (fun _ _ _ h => h) (by kernel_rfl) hS2_0 (fun v hv => ?_) ?_
      rotate_left
      · (obtain ⟨k1, k2, k3, k4⟩ := hv; go_simp; all_goals rfl)
      simp only [Act.put]
      refine tame0 (k := 11) ?_ rfl (by kernel_rfl) (by kernel_rfl) (by kernel_rfl) (fun _ _ _ h => h) (by kernel_rfl) (fun v => ?_) ?_
      rotate_left
      · (go_simp; all_goals rfl)
      simp only [Act.put]
      refine tame (k := 12) ?_ rfl (by kernel_rfl) (by kernel_rfl) (by kernel_rfl) (by kernel_rfl) (fun _ _ _ h => h) (by kernel_rfl) hS2_0 (fun v hv => ?_) ?_
      rotate_left
      · (obtain ⟨k1, k2, k3, k4⟩ := hv; go_simp; all_goals rfl)
      simp only [Act.put]
      refine tame0 (k := 13) ?_ rfl (by kernel_rfl) (by kernel_rfl) (by kernel_rfl) (fun _ _ _ h => h) (by kernel_rfl) (fun v => ?_) ?_
      rotate_left
      · (go_simp; all_goals rfl)
      simp only [Act.put]
      have hS2_0v := Lib.hid hS2_0
      clear hS2_0
      refine tame_one (k := 14) (by kernel_rfl) rfl (by kernel_rfl) ?_
      go_simp
      refine ⟨by first | exact hS2_0v | exact Hid.out hS2_0v, ?_⟩
      refine tame_end (by kernel_rfl) ?_
      have HB3 : Below u.heap.size u v2.drew := bUp HB2 (Below.drew (Below.refl _ _)) HB2.size
      generalize v2.drew = v3 at *
      go_wp2
      go_roundw
      case rel => exact ⟨k + 1, by omega, by go_num, rfl, rfl, HB3⟩
      case measure => simp [intOf] <;> omega
    · obtain rfl : k = n := by omega
      have hp := pw_bd 4 12 16777216 (by decide) h0 h4 (by decide) (k := (suTo T X k).toNat) (by omega)
      have hm := mul_bd _ _ 110592000 16777216 g1.1 g1.2 hp.1 hp.2
      have e1 : IntKind.i64.wrap (prTo S X k * pw b (suTo T X k).toNat) = prTo S X k * pw b (suTo T X k).toNat := IntWalk.i64_in _ (by omega)
      have k2' := (HB.cell (cell_lt k2)).trans k2
      generalize hpw : pw b (suTo T X k).toNat = pq at *
      clear hm hp
      go_wp2_with fail
      refine (power12 b _ pq h0 h4 g2.1 g2.2 hpw _).mono ?_
      rintro e w5 ⟨rfl, rfl⟩
      go_wp2
      go_ret
      exact ⟨rfl, bUp HB1 HB HB1.size⟩
end Go.Proofs.Ytkpdldoiicfllaa
