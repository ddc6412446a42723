/- Playing in a set: the program's walk. (Written by gen_plw.py.) -/
import Derived.Test.YtfobjkdkjlbkfaaIdxL
import Derived.Test.YtfobjkdkjlbkfaaMk2
import Derived.Test.YtfobjkdkjlbkfaaButA
import Derived.Test.YtfobjkdkjlbkfaaLvB
import Derived.Test.YtfobjkdkjlbkfaaArA
namespace Go.Proofs.Ytfobjkdkjlbkfaa
open Go.RowKit

theorem wtP_int {P W : List Int} {a b : Int} {x y : Nat} (hd : dpN P x ≤ dpN P y) : nth (gath P W) y * pw a (nth (dep P) y - nth (dep P) x).toNat * pw b (4 - (nth (dep P) y - nth (dep P) x)).toNat = wtP P W a b x y := by
  have h1 := dep_bd P x
  have h2 := dep_bd P y
  unfold wtP dpN at *
  rw [show (nth (dep P) y - nth (dep P) x).toNat = (nth (dep P) y).toNat - (nth (dep P) x).toNat by omega, show (4 - (nth (dep P) y - nth (dep P) x)).toNat = 4 - ((nth (dep P) y).toNat - (nth (dep P) x).toNat) by omega]
theorem qSame2 {P : Program} {f : FuncId} {args : Array Value} {w : World} {a n : Nat} {v : Value}
    (h : Calls P f args (w.drewN (a + n)) fun e w' => e = .returned v ∧ w.drewN (a + n) = w') : Calls P f args (w.drewN (a + n)) fun e w'' => e = .returned v ∧ ∃ m, w'' = w.drewN (a + m) :=
  h.mono fun _ _ ⟨he, hm⟩ => ⟨he, n, hm.symm⟩
theorem bx3_dr {W W' : World} {g : Nat} {x y z : Value} (h : Bx3 W g x y z) (hd : Dr W W') : Bx3 W' g x y z := by
  obtain ⟨n, rfl⟩ := hd
  exact h.drewN n
set_option maxRecDepth 20000 in
set_option maxHeartbeats 2000000 in
theorem played_c (A1 : Option Addr) (P : List Int) (c1 : Nat) (A2 : Option Addr) (W : List Int) (c2 : Nat) (A3 : Option Addr) (F : List Int) (c3 : Nat) (a b : Int) (x : Nat) (A : Option Addr) (s : List Int) (c : Nat) (w : World) (h : RdM w A1 P A2 W A3 F) (hk : ArmAB P W F a b) (hx : x < P.length) (hs : Rd w A (ints s)) (hl : s.length ≤ 9)
    (hm : ∀ k, k < s.length → ∃ y : Nat, nth s k = (y : Int) ∧ y < P.length ∧ dpN P x ≤ dpN P y) :
    Calls Try.prog 52 #[mkV A1 P.length c1 A2 W.length c2 A3 F.length c3, .int .i64 a, .int .i64 b, .int .i64 (x : Int), .slice A s.length c] w (Quietly w (.tuple #[.int .i64 (gnA P W F a b x s), .int .i64 (tmA P W a b x s)])) := by
  have HB1 : Below w.heap.size w (w.alloc (.cells #[.slice A1 P.length c1, .slice A2 W.length c2, .slice A3 F.length c3] 28)) := (Below.refl _ _).alloc (Nat.le_refl _) _
  have bx := Bx3.new w (.slice A1 P.length c1) (.slice A2 W.length c2) (.slice A3 F.length c3) 28
  have hok := hk.arm
  have hn1 := hok.tree.n1
  have hn2 := hok.tree.n2
  have hn9 := hok.n9
  have hpar := hok.tree.par
  have HFL := Lib.hid hok.len
  have ha0 : 0 ≤ a := by have := hk.a1; omega
  have ha4 : a ≤ 4 := by have := hk.ab; have := hk.b4; omega
  have hb0 : 0 ≤ b := by have := hk.a1; have := hk.ab; omega
  have hb4 := hk.b4
  have HM := Lib.hid hm
  have hm2 : ∀ k, k < s.length → (nth s k).toNat < P.length := fun k hk' => by
    obtain ⟨y, e, h1, _⟩ := hm k hk'
    omega
  have HG := Lib.hid (gnT_bd hok hk.a1 hk.ab hk.b4 (x := x) hm2)
  have HT := Lib.hid (tmT_bd hok hk.a1 hk.ab hk.b4 (x := x) hm2)
  clear hm hm2
  go_enter Try.func52, Try.ntmps52
  go_upto_region 2 with fail
  generalize w.alloc (.cells #[.slice A1 P.length c1, .slice A2 W.length c2, .slice A3 F.length c3] 28) = v at *
  obtain ⟨f0, f1, f2, fz⟩ := id bx
  have hd : Below v.heap.size v v.drew := Below.drew (Below.refl _ _)
  have SK : Hid (∀ w', Below v.heap.size v w' → w'.cell? ⟨w.heap.size, 0, none⟩ = some (.slice A1 P.length c1) ∧ w'.cell? ⟨w.heap.size, 1, none⟩ = some (.slice A2 W.length c2) ∧ w'.cell? ⟨w.heap.size, 2, none⟩ = some (.slice A3 F.length c3)) :=
    Lib.hid fun w' HV => ⟨(HV.cell (p := ⟨w.heap.size, 0, none⟩) fz).trans f0, (HV.cell (p := ⟨w.heap.size, 1, none⟩) fz).trans f1, (HV.cell (p := ⟨w.heap.size, 2, none⟩) fz).trans f2⟩
  clear f0 f1 f2
  have hS0 := SK.out v.drew hd
  have h' := h.below (Below.drew HB1) (Nat.le_refl _)
  refine tamed_region (S := fun w' => w'.cell? ⟨w.heap.size, 0, none⟩ = some (.slice A1 P.length c1) ∧ w'.cell? ⟨w.heap.size, 1, none⟩ = some (.slice A2 W.length c2) ∧ w'.cell? ⟨w.heap.size, 2, none⟩ = some (.slice A3 F.length c3)) (fun _ => false) (by kernel_rfl) ?_
  refine tame0 (k := 0) ?_ rfl (by kernel_rfl) (by kernel_rfl) (by kernel_rfl) (fun _ _ _ h => h) (by kernel_rfl) (fun v => ?_) ?_
  rotate_left
  · (go_simp; all_goals rfl)
  simp only [Act.put, List.setIfInBounds_toArray]
  refine tame (k := 1) ?_ rfl (by kernel_rfl) (by kernel_rfl) (by kernel_rfl) (by kernel_rfl) (fun _ _ _ h => h) (by kernel_rfl) hS0 (fun v hv => ?_) ?_
  rotate_left
  · (obtain ⟨k1, k2, k3⟩ := hv; go_simp; all_goals rfl)
  simp only [Act.put]
  refine tame0 (k := 3) ?_ rfl (by kernel_rfl) (by kernel_rfl) (by kernel_rfl) (fun _ _ _ h => h) (by kernel_rfl) (fun v => ?_) ?_
  rotate_left
  · (go_simp; all_goals rfl)
  simp only [Act.put]
  refine tame (k := 4) ?_ rfl (by kernel_rfl) (by kernel_rfl) (by kernel_rfl) (by kernel_rfl) (fun _ _ _ h => h) (by kernel_rfl) hS0 (fun v hv => ?_) ?_
  rotate_left
  · (obtain ⟨k1, k2, k3⟩ := hv; go_simp; all_goals rfl)
  simp only [Act.put]
  refine tame_one (k := 2) (by kernel_rfl) rfl (by kernel_rfl) ?_
  go_simp
  refine (sums_c A1 P c1 A2 W c2 _ h'.r1 h'.r2 hok.tree hn1 hn2).mono ?_
  rintro e w5 ⟨As, cs, rfl, os, b5⟩
  have H5 := bUp hd b5 (Nat.le_refl _)
  refine ⟨by first | exact SK.out _ H5, ?_⟩
  refine tame_one (k := 5) (by kernel_rfl) rfl (by kernel_rfl) ?_
  go_simp
  refine (depthsN_c A1 P c1 A2 W.length c2 _ (h'.below b5 (Nat.le_refl _)).r1 hpar hn1 hn2).mono ?_
  rintro e w6 ⟨Ad, cd, rfl, od, b6⟩
  have H6 := bUp H5 b6 H5.size
  have HS6 := Lib.hid (SK.out _ H6)
  refine ⟨by first | exact HS6.out, ?_⟩
  have os6 := os.below b6
  have bx6 := bx.below H6
  have HB6 := HB1.trans (H6.mono HB1.size)
  clear os b5 b6 H5 H6 hS0 h' hd SK fz bx HB1
  refine tame_one (k := 6) (by kernel_rfl) rfl (by kernel_rfl) ?_
  go_simp
  refine ⟨by first | exact HS6.out, ?_⟩
  refine tame_one (k := 7) (by kernel_rfl) rfl (by kernel_rfl) ?_
  go_simp
  refine ⟨by first | exact HS6.out, ?_⟩
  refine tame_end (by kernel_rfl) ?_
  clear HS6
  have hss := hs.below HB6 (Nat.le_refl _)
  have h6 := h.below HB6 (Nat.le_refl _)
  have HSL := Lib.hid (show (gath P W).length = P.length by rw [gath_length, hok.tree.len])
  have HDL := Lib.hid (dep_length hn1)
  obtain ⟨gs, rfl, _, _⟩ := os6.form (by rw [HSL.out]; omega)
  obtain ⟨gd, rfl, _, _⟩ := od.form (by rw [HDL.out]; omega)
  go_wp2
  go_loopw [12, 13, 28] (fun g t i wr => ∃ k : Nat, k ≤ s.length ∧ i = .int .i64 (k : Int) ∧ g = .int .i64 (gnT P W F a b x s k) ∧ t = .int .i64 (tmT P W a b x s k) ∧ Dr w6 wr) (fun _ _ i _ => s.length - (intOf i).toNat)
  case atStart => exact ⟨0, Nat.zero_le _, rfl, by rw [gnT_zero], by rw [tmT_zero], Dr.refl _⟩
  case round =>
    obtain ⟨k, hkl, rfl, rfl, rfl, hdr⟩ := hrel
    obtain ⟨wo, rfl⟩ : ∃ wo : World, wo = wr := ⟨_, rfl⟩
    obtain ⟨f0, f1, f2, fz⟩ := bx3_dr bx6 hdr
    by_cases hlt : k < s.length
    · obtain ⟨a0, rfl, hcs⟩ := (hss.dr hdr).intN hlt
      obtain ⟨y, ey, hy, hyd⟩ := HM.out k hlt
      have HGS := Lib.hid (gnT_succ (P := P) (W := W) (F := F) (a := a) (b := b) (x := x) hlt)
      have HTS := Lib.hid (tmT_succ (P := P) (W := W) (a := a) (b := b) (x := x) hlt)
      rw [ey] at hcs HGS HTS
      rw [Int.toNat_natCast] at HGS HTS
      have HWI := Lib.hid (wtP_int (P := P) (W := W) (a := a) (b := b) hyd)
      have bG := HG.out k hkl
      have bT := HT.out k hkl
      have cS := (os6.dr hdr).cellN (k := y) (by rw [HSL.out]; exact hy)
      have cD := (od.dr hdr).cellN (k := y) (by rw [HDL.out]; exact hy)
      have cX := (od.dr hdr).cellN (k := x) (by rw [HDL.out]; exact hx)
      obtain ⟨af, rfl, hcf⟩ := (h6.r3.dr hdr).intN (k := y) (by have := HFL.out; omega)
      have d1 := hok.depth hy
      have d2 := hok.depth hx
      have d3 : 0 ≤ nth (dep P) y - nth (dep P) x ∧ nth (dep P) y - nth (dep P) x ≤ 4 := by unfold dpN at hyd; omega
      have s1 := hok.sum180 y
      have p1 := pw_four ha0 ha4 (k := (nth (dep P) y - nth (dep P) x).toNat) (by omega)
      have p2 := pw_four hb0 hb4 (k := (4 - (nth (dep P) y - nth (dep P) x)).toNat) (by omega)
      have m1 := mul_bd _ _ 180 256 s1.1 s1.2 p1.1 p1.2
      have w1 := wtP_bd hok hk.a1 hk.ab hk.b4 (x := x) hy
      have w2 := wtF_bd hok hk.a1 hk.ab hk.b4 (x := x) hy
      have i1 : (0 : Int) ≤ (y : Int) := by omega
      have i2 : (y : Int) < (P.length : Int) := by omega
      have i3 : (x : Int) < (P.length : Int) := by omega
      have i4 : y < F.length := by have := HFL.out; omega
      have i5 : (y : Int) < (F.length : Int) := by omega
      have e1 : IntKind.i64.wrap (nth (dep P) y - nth (dep P) x) = nth (dep P) y - nth (dep P) x := IntWalk.i64_in _ (by omega)
      have HE2 : Hid (IntKind.i64.wrap (4 - (nth (dep P) y - nth (dep P) x)) = 4 - (nth (dep P) y - nth (dep P) x)) := Lib.hid (IntWalk.i64_in _ (by omega))
      have HE3 : Hid (IntKind.i64.wrap (nth (gath P W) y * pw a (nth (dep P) y - nth (dep P) x).toNat) = nth (gath P W) y * pw a (nth (dep P) y - nth (dep P) x).toNat) := Lib.hid (IntWalk.i64_in _ (by omega))
      have HE4 : Hid (IntKind.i64.wrap (nth (gath P W) y * pw a (nth (dep P) y - nth (dep P) x).toNat * pw b (4 - (nth (dep P) y - nth (dep P) x)).toNat) = nth (gath P W) y * pw a (nth (dep P) y - nth (dep P) x).toNat * pw b (4 - (nth (dep P) y - nth (dep P) x)).toNat) := Lib.hid (by rw [HWI.out]; exact IntWalk.i64_in _ (by omega))
      clear ey hyd
      go_wp2
      go_quiet (fail)
      have e2 := HE2.out
      have e3 := HE3.out
      have e4 := HE4.out
      clear e1
      go_wp2
      go_quiet ((go_at_call 54; exact qSame2 (power_s _ _ _ (by omega) (by omega) (by omega) (by omega) rfl _)))
      clear e2 e3 e4
      rw [HWI.out]
      clear s1 p1 p2 m1 d1 d2 d3
      go_wp2
      go_roundw
      case rel => exact ⟨k + 1, by omega, by go_num, by rw [HGS.out], by rw [HTS.out], hdr.drewN _⟩
      case measure => simp [intOf] <;> omega
    · obtain rfl : k = s.length := by omega
      go_wp2
      go_ret2
      exact ⟨rfl, hdr.below HB6⟩
end Go.Proofs.Ytfobjkdkjlbkfaa
