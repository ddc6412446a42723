/- Gain and time of a set: the reference's walk. (Written by gen_paw.py.) -/
import Derived.Test.YtdhagkckkdaenaaIdxL
import Derived.Test.YtdhagkckkdaenaaLsW
import Derived.Deep.CutRange
namespace Go.Proofs.Ytdhagkckkdaenaa
open Go.RowKit

set_option maxRecDepth 20000 in
set_option maxHeartbeats 1000000 in
theorem l2WayN_c (A1 : Option Addr) (P : List Int) (c1 : Nat) (A2 : Option Addr) (n2 c2 : Nat) (x : Nat) (w : World) (h1 : Rd w A1 (ints P)) (hp : ParOk P) (hx : x < P.length) (hn : P.length ≤ 24) :
    Calls Try.prog 57 #[trV A1 P.length c1 A2 n2 c2, .int .i64 (x : Int)] w fun e w' => ∃ (A : Option Addr) (c : Nat), e = .returned (.slice A (dpN P x + 1) c) ∧ Below w.heap.size w w' := by
  have HB1 : Below w.heap.size w ((w.alloc (.cells #[.slice A1 P.length c1, .slice A2 n2 c2] 31)).alloc (.cells #[.int .i64 (x : Int)] 3)) := ((Below.refl _ _).alloc (Nat.le_refl _) _).alloc (by simp) _
  have bx := (Bx.new w (.slice A1 P.length c1) (.slice A2 n2 c2) 31).alloc (.cells #[.int .i64 (x : Int)] 3)
  have O0 : Own ((w.alloc (.cells #[.slice A1 P.length c1, .slice A2 n2 c2] 31)).alloc (.cells #[.int .i64 (x : Int)] 3)) (w.heap.size + 1) (some ⟨w.heap.size + 1, 0, none⟩) 1 [(x : Int)] := by
    have := Own.lit (w.alloc (.cells #[.slice A1 P.length c1, .slice A2 n2 c2] 31)) [(x : Int)] (by simp)
    simpa [ints] using this
  have d24 : ∀ y, y < P.length → dpN P y ≤ P.length := fun y _ => by have := dep_bd P y; unfold dpN; omega
  have HD := Lib.hid d24
  clear d24
  go_enter Try.func57, Try.ntmps57
  go_wp2
  go_loopw [1, 5] (fun t s wr => ∃ (y : Nat) (A : Option Addr) (c : Nat) (xs : List Int), y < P.length ∧ t = .int .i64 (y : Int) ∧ s = .slice A xs.length c ∧ xs.length + dpN P y = dpN P x + 1 ∧ Own wr (w.heap.size + 1) A c xs ∧ Bx wr w.heap.size (.slice A1 P.length c1) (.slice A2 n2 c2) ∧ Below w.heap.size w wr) (fun t _ _ => (intOf t).toNat)
  case atStart => exact ⟨x, _, _, [(x : Int)], hx, rfl, rfl, by simp; omega, O0, bx, HB1⟩
  case round =>
    clear O0 bx HB1
    obtain ⟨wo, rfl⟩ : ∃ wo : World, wo = wr := ⟨_, rfl⟩
    obtain ⟨y, A, c, xs, hy, rfl, rfl, hl, ho, hb, hB⟩ := hrel
    obtain ⟨f0, f1, f2, f3, f4⟩ := id hb
    by_cases hy0 : 0 < y
    · obtain ⟨p, hpy, hlt⟩ := par_of hp hy0 hy
      have hdp := (dpN_kid hp hy hpy).2
      have hlen : xs.length ≤ 48 := by have := HD.out x hx; omega
      have HL : Hid (1 + xs.length + dpN P p = dpN P x + 1) := Lib.hid (by omega)
      obtain ⟨a1, rfl, q1⟩ := (h1.below hB (Nat.le_refl _)).intN (k := y) hy
      rw [hpy] at q1
      have i1 : (0 : Int) < (y : Int) := by omega
      have O1 : Own (wo.alloc (.cells #[.int .i64 (p : Int)] 3)) wo.heap.size (some ⟨wo.heap.size, 0, none⟩) 1 [(p : Int)] := by
        have := Own.lit wo [(p : Int)] (by simp)
        simpa [ints] using this
      have hsz : w.heap.size + 1 ≤ wo.heap.size := f4
      have r1 := ho.rd.alloc (.cells #[.int .i64 (p : Int)] 3)
      have hba := hb.alloc (.cells #[.int .i64 (p : Int)] 3)
      have hBa := hB.alloc hB.size (.cells #[.int .i64 (p : Int)] 3)
      clear hpy hdp hl
      go_wp2_with (at_builtin; refine wp_append_ints _ rfl _ _ rfl wo.heap.size _ 1 1 [(p : Int)] rfl rfl O1 A xs.length c xs rfl rfl r1 (by simp; omega) (by simp) ?_; intro A2 c2 w2 ho2 hg2 hb2)
      have hx2 := hba.grown hg2 (by simp only [blk, Option.map_some, ne_eq, Option.some.injEq]; omega)
      have HB2 := hBa.grown hg2 hBa.size (fun k hk => by simp only [blk, Option.map_some, Option.some.injEq] at hk; omega)
      go_roundw
      case rel => exact ⟨p, A2, c2, [(p : Int)] ++ xs, by omega, rfl, by rw [List.length_append]; rfl, by rw [List.length_append]; exact HL.out, ho2.mono hsz, hx2, HB2⟩
      case measure => simp [intOf] <;> omega
    · obtain rfl : y = 0 := by omega
      have hl' : xs.length = dpN P x + 1 := by rw [dpN_zero] at hl; omega
      have HL := Lib.hid hl'
      clear hl hl'
      go_wp2
      go_ret
      exact ⟨A, c, by rw [← HL.out] <;> rfl, hB⟩
/-- The state while a node's children are seen. -/
structure PaR (w wr : World) (g : Nat) (f : Int × Int) (x y z : Value) (Ak : Option Addr) (ck : Nat) (L : List Int) : Prop where
  bx : Bx3 wr w.heap.size x y z
  br : Bx wr (w.heap.size + 1) (.int .i64 0) (.int .i64 0)
  bg : Bx wr g (.int .i64 f.1) (.int .i64 f.2)
  ok : Own wr (w.heap.size + 1) Ak ck L
  nk : blk Ak ≠ some g
  hg : w.heap.size + 1 < g
  hb : Below w.heap.size w wr
section
variable {w wr wr' : World} {g ck : Nat} {f : Int × Int} {x y z : Value} {Ak : Option Addr} {L : List Int}
theorem PaR.below (h : PaR w wr g f x y z Ak ck L) (b : Below wr.heap.size wr wr') : PaR w wr' g f x y z Ak ck L :=
  ⟨h.bx.below b, h.br.below b, h.bg.below b, h.ok.below b, h.nk, h.hg, bUp h.hb b h.hb.size⟩
theorem PaR.dr (h : PaR w wr g f x y z Ak ck L) (d : Dr wr wr') : PaR w wr' g f x y z Ak ck L :=
  ⟨bx3_dr h.bx d, h.br.dr d, h.bg.dr d, h.ok.dr d, h.nk, h.hg, d.below h.hb⟩
theorem PaR.set (h : PaR w wr g f x y z Ak ck L) (s t : Int) : PaR w ((wr.setCell ⟨g, 0, none⟩ (.int .i64 s)).setCell ⟨g, 1, none⟩ (.int .i64 t)) g (s, t) x y z Ak ck L := by
  have hG : wr.grownBy ((wr.setCell ⟨g, 0, none⟩ (.int .i64 s)).setCell ⟨g, 1, none⟩ (.int .i64 t)) (some g) := (grown_setCell wr ⟨g, 0, none⟩ _).trans (grown_setCell _ ⟨g, 1, none⟩ _)
  have := h.hg
  exact ⟨h.bx.grown hG (by omega), h.br.grown hG (by simp; omega), by simpa using bx_put h.bg (.int .i64 s) (.int .i64 t), h.ok.grown hG (.inr h.nk), h.nk, h.hg, h.hb.grown hG h.hb.size (fun k hk => by injection hk with hk; omega)⟩
end
set_option maxRecDepth 20000 in
set_option maxHeartbeats 4000000 in
theorem l8Pair_c (A1 : Option Addr) (P : List Int) (c1 : Nat) (A2 : Option Addr) (W : List Int) (c2 : Nat) (A3 : Option Addr) (F : List Int) (c3 : Nat) (a b : Int) (hk : ArmAB P W F a b) (gi ci Bi : Nat) (bs : List Bool) (hbs : bs.length = P.length) :
    ∀ (n x : Nat) (w : World), P.length ≤ x + n → x < P.length → RdM w A1 P A2 W A3 F → OwnB w Bi (some ⟨gi, 0, none⟩) ci bs →
    Calls Try.prog 29 #[mkV A1 P.length c1 A2 W.length c2 A3 F.length c3, .int .i64 a, .int .i64 b, .slice (some ⟨gi, 0, none⟩) P.length ci, .int .i64 (x : Int)] w (Quietly w (.agg #[.int .i64 (gnR P W F a b (nthB bs) x), .int .i64 (tmR P W a b (nthB bs) x)])) := by
  intro n
  induction n with
  | zero => intro x w h1 h2; omega
  | succ n ih =>
    intro x w hn hx h hob
    have HB1 : Below w.heap.size w ((w.alloc (.cells #[.slice A1 P.length c1, .slice A2 W.length c2, .slice A3 F.length c3] 33)).alloc (.cells #[.int .i64 0, .int .i64 0] 28)) := ((Below.refl _ _).alloc (Nat.le_refl _) _).alloc (by simp) _
    have bx := (Bx3.new w (.slice A1 P.length c1) (.slice A2 W.length c2) (.slice A3 F.length c3) 33).alloc (.cells #[.int .i64 0, .int .i64 0] 28)
    have br := Bx.new (w.alloc (.cells #[.slice A1 P.length c1, .slice A2 W.length c2, .slice A3 F.length c3] 33)) (.int .i64 0) (.int .i64 0) 28
    simp only [World.size_alloc] at br
    have hok := hk.arm
    have hn1 := hok.tree.n1
    have hn2 := hok.tree.n2
    have hn9 := hok.n9
    have hpar := hok.tree.par
    have HFL := Lib.hid hok.len
    have HWL := Lib.hid hok.tree.len
    have HBL := Lib.hid hbs
    have HN := Lib.hid hn
    have i0 : (0 : Int) ≤ (x : Int) := by omega
    have i1 : (x : Int) < (P.length : Int) := by omega
    have hkl9 : (kids P (x : Int)).length ≤ 9 := Nat.le_trans (kidTo_len P x P.length) hn9
    have hb0 := hk.b0
    have hb4 := hk.b4
    clear hn
    go_enter Try.func29, Try.ntmps29
    go_wp2_with fail
    generalize (w.alloc (.cells #[.slice A1 P.length c1, .slice A2 W.length c2, .slice A3 F.length c3] 33)).alloc (.cells #[.int .i64 0, .int .i64 0] 28) = w1 at *
    refine (l2WayN_c A1 P c1 A2 W.length c2 x _ (h.below HB1 (Nat.le_refl _)).r1 hpar hx hn2).mono ?_
    rintro e v ⟨Aw, cw, rfl, bw⟩
    have HBv := bUp HB1 bw HB1.size
    have bxv := bx.below bw
    have brv := br.below bw
    clear bx br bw HB1
    have hdN := dpN_le hok hx
    have HDI := Lib.hid (dpN_int P x)
    have bU := unitX_46 hok hb0 hb4 hx
    have bFU := FU_bd hk hx
    have bS := hok.sum180 x
    obtain ⟨p, hp⟩ : ∃ p, pw b (hgt P - (dpN P x : Int)).toNat = p := ⟨_, rfl⟩
    have HUX : Hid (nth (gath P W) x * p = unitX P W b x) := Lib.hid (by rw [← hp, dpN_int]; rfl)
    have HP := Lib.hid hp
    clear hp
    have hgd := hgt_dep hok hx
    have bE : 0 ≤ hgt P - (dpN P x : Int) ∧ hgt P - (dpN P x : Int) ≤ 4 := by rw [dpN_int]; exact hgd
    have e1 : IntKind.i64.wrap (hgt P - (dpN P x : Int)) = hgt P - (dpN P x : Int) := IntWalk.i64_in _ (by omega)
    have e2 : IntKind.i64.wrap (nth (gath P W) x * p) = nth (gath P W) x * p := by rw [HUX.out]; exact IntWalk.i64_in _ (by omega)
    have hd4 : dpN P x ≤ 4 := by omega
    clear hdN hgd
    go_upto_region 2 with fail
    obtain ⟨f0, f1, f2, fz⟩ := id bxv
    have h' := h.below (Below.drew HBv) (Nat.le_refl _)
    have hd1 : Below v.heap.size v v.drew := Below.drew (Below.refl _ _)
    have SK1 : Hid (∀ w', Below v.heap.size v w' → w'.cell? ⟨w.heap.size, 0, none⟩ = some (.slice A1 P.length c1) ∧ w'.cell? ⟨w.heap.size, 1, none⟩ = some (.slice A2 W.length c2) ∧ w'.cell? ⟨w.heap.size, 2, none⟩ = some (.slice A3 F.length c3)) := Lib.hid fun w' HV => ⟨(HV.cell (p := ⟨w.heap.size, 0, none⟩) fz).trans f0, (HV.cell (p := ⟨w.heap.size, 1, none⟩) fz).trans f1, (HV.cell (p := ⟨w.heap.size, 2, none⟩) fz).trans f2⟩
    clear f0 f1 f2
    have hS1_0 := SK1.out _ hd1
    refine tamed_region (S := fun w' => w'.cell? ⟨w.heap.size, 0, none⟩ = some (.slice A1 P.length c1) ∧ w'.cell? ⟨w.heap.size, 1, none⟩ = some (.slice A2 W.length c2) ∧ w'.cell? ⟨w.heap.size, 2, none⟩ = some (.slice A3 F.length c3)) (fun _ => false) (by kernel_rfl) ?_
    refine tame0 (k := 0) ?_ rfl (by kernel_rfl) (by kernel_rfl) (by kernel_rfl) (fun _ _ _ h => h) (by kernel_rfl) (fun v => ?_) ?_
    rotate_left
    · (go_simp; all_goals rfl)
    simp only [Act.put, List.setIfInBounds_toArray]
    refine tame (k := 1) ?_ rfl (by kernel_rfl) (by kernel_rfl) (by kernel_rfl) (by kernel_rfl) (fun _ _ _ h => h) (by kernel_rfl) hS1_0 (fun v hv => ?_) ?_
    rotate_left
    · (obtain ⟨k1, k2, k3⟩ := hv; go_simp; all_goals rfl)
    simp only [Act.put]
    refine tame0 (k := 3) ?_ rfl (by kernel_rfl) (by kernel_rfl) (by kernel_rfl) (fun _ _ _ h => h) (by kernel_rfl) (fun v => ?_) ?_
    rotate_left
    · (go_simp; all_goals rfl)
    simp only [Act.put]
    refine tame0 (k := 6) ?_ rfl (by kernel_rfl) (by kernel_rfl) (by kernel_rfl) (fun _ _ _ h => h) (by kernel_rfl) (fun v => ?_) ?_
    rotate_left
    · (go_simp; all_goals rfl)
    simp only [Act.put]
    refine tame0 (k := 7) ?_ rfl (by kernel_rfl) (by kernel_rfl) (by kernel_rfl) (fun _ _ _ h => h) (by kernel_rfl) (fun v => ?_) ?_
    rotate_left
    · (go_simp; all_goals rfl)
    simp only [Act.put]
    refine tame (k := 8) ?_ rfl (by kernel_rfl) (by kernel_rfl) (by kernel_rfl) (by kernel_rfl) (fun _ _ _ h => h) (by kernel_rfl) hS1_0 (fun v hv => ?_) ?_
    rotate_left
    · (obtain ⟨k1, k2, k3⟩ := hv; go_simp; all_goals rfl)
    simp only [Act.put]
    refine tame0 (k := 10) ?_ rfl (by kernel_rfl) (by kernel_rfl) (by kernel_rfl) (fun _ _ _ h => h) (by kernel_rfl) (fun v => ?_) ?_
    rotate_left
    · (go_simp; all_goals rfl)
    simp only [Act.put]
    refine tame_one (k := 2) (by kernel_rfl) rfl (by kernel_rfl) ?_
    go_simp
    refine (l2SumsN_c A1 P c1 A2 W c2 _ h'.r1 h'.r2 hok.tree hn1 hn2).mono ?_
    rintro e w5 ⟨As, cs, rfl, os, b5⟩
    have hd1_1 := bUp hd1 b5 (Nat.le_refl _)
    have hS1_1 := Lib.hid (SK1.out _ hd1_1)
    refine ⟨by first | exact hS1_1 | exact Hid.out hS1_1, ?_⟩
    have HSL := Lib.hid (show (gath P W).length = P.length by rw [gath_length, hok.tree.len])
    obtain ⟨gs, rfl, hgs, hgs2⟩ := os.form (by rw [HSL.out]; omega)
    have qs := os.cellN (k := x) (by rw [HSL.out]; exact hx)
    have h5 := h'.below b5 (Nat.le_refl _)
    have SK1m : Hid (∀ w', Below w5.heap.size w5 w' → (w'.cell? ⟨w.heap.size, 0, none⟩ = some (.slice A1 P.length c1) ∧ w'.cell? ⟨w.heap.size, 1, none⟩ = some (.slice A2 W.length c2) ∧ w'.cell? ⟨w.heap.size, 2, none⟩ = some (.slice A3 F.length c3)) ∧ w'.cell? ⟨gs, x, none⟩ = some (.int .i64 (nth (gath P W) x))) := Lib.hid fun w' HV => ⟨SK1.out _ (bUp hd1_1 HV hd1_1.size), (HV.cell (p := ⟨gs, x, none⟩) hgs2).trans qs⟩
    clear qs
    have hm1_1 : Below w5.heap.size w5 w5 := Below.refl _ _
    have hS1_1m := SK1m.out _ hm1_1
    refine Tamed.more (S2 := fun w' => (w'.cell? ⟨w.heap.size, 0, none⟩ = some (.slice A1 P.length c1) ∧ w'.cell? ⟨w.heap.size, 1, none⟩ = some (.slice A2 W.length c2) ∧ w'.cell? ⟨w.heap.size, 2, none⟩ = some (.slice A3 F.length c3)) ∧ w'.cell? ⟨gs, x, none⟩ = some (.int .i64 (nth (gath P W) x))) (fun _ => rfl) (fun _ h => h.1) _ _ _ _ hS1_1m ?_
    refine tame0 (k := 4) ?_ rfl (by kernel_rfl) (by kernel_rfl) (by kernel_rfl) (fun _ _ _ h => h) (by kernel_rfl) (fun v => ?_) ?_
    rotate_left
    · (go_simp; all_goals rfl)
    simp only [Act.put]
    refine tame (k := 5) ?_ rfl (by kernel_rfl) (by kernel_rfl) (by kernel_rfl) (by kernel_rfl) (fun _ _ _ h => h) (by kernel_rfl) hS1_1m (fun v hv => ?_) ?_
    rotate_left
    · (obtain ⟨⟨k1, k2, k3⟩, k4⟩ := hv; go_simp; all_goals rfl)
    simp only [Act.put]
    refine tame_one (k := 9) (by kernel_rfl) rfl (by kernel_rfl) ?_
    go_simp
    refine (l8Deepest_c A1 P c1 A2 W.length c2 _ h5.r1 hpar hn1 hn2).mono ?_
    rintro e w6 ⟨rfl, b6⟩
    have hd1_2 := bUp hm1_1 b6 (Nat.le_refl _)
    have hS1_2 := Lib.hid (SK1m.out _ hd1_2)
    refine ⟨by first | exact hS1_2 | exact Hid.out hS1_2, ?_⟩
    refine tame_one (k := 11) (by kernel_rfl) rfl (by kernel_rfl) ?_
    go_simp
    refine ⟨by first | exact hS1_2 | exact Hid.out hS1_2, ?_⟩
    refine tame_one (k := 12) (by kernel_rfl) rfl (by kernel_rfl) ?_
    go_simp
    refine (l6Power_s b (hgt P - (dpN P x : Int)) p hb0 hb4 bE.1 bE.2 HP.out _).mono ?_
    rintro e w7 ⟨rfl, rfl⟩
    refine ⟨by first | exact hS1_2 | exact Hid.out hS1_2, ?_⟩
    refine tame_one (k := 13) (by kernel_rfl) rfl (by kernel_rfl) ?_
    go_simp
    refine ⟨by first | exact hS1_2 | exact Hid.out hS1_2, ?_⟩
    rw [HUX.out]
    refine tame_one (k := 14) (by kernel_rfl) rfl (by kernel_rfl) ?_
    go_simp
    refine ⟨by first | exact hS1_2 | exact Hid.out hS1_2, ?_⟩
    refine tame_end (by kernel_rfl) ?_
    have HV6 := (Below.drew (Below.refl v.heap.size v)).trans (b5.trans (b6.mono b5.size))
    have HB6 := HBv.trans (HV6.mono HBv.size)
    have bx6 := bxv.below HV6
    have br6 := brv.below HV6
    clear os b5 b6 h5 h' bxv brv HBv HV6 e1 e2 bE bS SK1 SK1m hd1 hd1_1 hm1_1 hS1_0 hS1_1 hS1_1m hd1_2 hS1_2
    generalize hU : unitX P W b x = U at *
    have HU := Lib.hid hU
    clear hU
    obtain ⟨f0, f1, f2, fz⟩ := id bx6
    obtain ⟨a3, rfl, q3⟩ := (h.below HB6 (Nat.le_refl _)).r3.intN (k := x) (by rw [HFL.out]; exact hx)
    have i2 : (x : Int) < (F.length : Int) := by rw [HFL.out]; omega
    have e1 : IntKind.i64.wrap (nth F x * U) = nth F x * U := IntWalk.i64_in _ (by omega)
    go_upto_region 3 with fail
    go_cut [13, 14] (fun s13 s14 wx => ∃ (g : Nat) (Ak : Option Addr) (ck : Nat), s13 = .pointer (some ⟨g, 0, none⟩) ∧ s14 = .slice Ak (kids P (x : Int)).length ck ∧ w6.heap.size ≤ g ∧ Bx wx g (.int .i64 (nth F x * U)) (.int .i64 U) ∧ Own wx w6.heap.size Ak ck (kids P (x : Int)) ∧ blk Ak ≠ some g ∧ Below w6.heap.size w6 wx)
    case first =>
      have h' := h.below (Below.drew HB6) (Nat.le_refl _)
      have hd2 : Below w6.heap.size w6 w6.drew := Below.drew (Below.refl _ _)
      have SK2 : Hid (∀ w', Below w6.heap.size w6 w' → w'.cell? ⟨w.heap.size, 0, none⟩ = some (.slice A1 P.length c1) ∧ w'.cell? ⟨w.heap.size, 1, none⟩ = some (.slice A2 W.length c2) ∧ w'.cell? ⟨w.heap.size, 2, none⟩ = some (.slice (some a3) F.length c3) ∧ w'.cell? (a3.add x) = some (.int .i64 (nth F x))) := Lib.hid fun w' HV => ⟨(HV.cell (p := ⟨w.heap.size, 0, none⟩) fz).trans f0, (HV.cell (p := ⟨w.heap.size, 1, none⟩) fz).trans f1, (HV.cell (p := ⟨w.heap.size, 2, none⟩) fz).trans f2, (HV.cell (cell_lt q3)).trans q3⟩
      clear f0 f1 f2 q3
      have hS2_0 := SK2.out _ hd2
      refine tamed_region (S := fun w' => w'.cell? ⟨w.heap.size, 0, none⟩ = some (.slice A1 P.length c1) ∧ w'.cell? ⟨w.heap.size, 1, none⟩ = some (.slice A2 W.length c2) ∧ w'.cell? ⟨w.heap.size, 2, none⟩ = some (.slice (some a3) F.length c3) ∧ w'.cell? (a3.add x) = some (.int .i64 (nth F x))) (fun _ => false) (by kernel_rfl) ?_
      refine tame0 (k := 0) ?_ rfl (by kernel_rfl) (by kernel_rfl) (by kernel_rfl) (fun _ _ _ h => h) (by kernel_rfl) (fun v => ?_) ?_
      rotate_left
      · (go_simp; all_goals rfl)
      simp only [Act.put, List.setIfInBounds_toArray]
      refine tame (k := 1) ?_ rfl (by kernel_rfl) (by kernel_rfl) (by kernel_rfl) (by kernel_rfl) (fun _ _ _ h => h) (by kernel_rfl) hS2_0 (fun v hv => ?_) ?_
      rotate_left
      · (obtain ⟨k1, k2, k3, k4⟩ := hv; go_simp; all_goals rfl)
      simp only [Act.put]
      refine tame0 (k := 2) ?_ rfl (by kernel_rfl) (by kernel_rfl) (by kernel_rfl) (fun _ _ _ h => h) (by kernel_rfl) (fun v => ?_) ?_
      rotate_left
      · (go_simp; all_goals rfl)
      simp only [Act.put]
      refine tame0 (k := 3) ?_ rfl (by kernel_rfl) (by kernel_rfl) (by kernel_rfl) (fun _ _ _ h => h) (by kernel_rfl) (fun v => ?_) ?_
      rotate_left
      · (go_simp; all_goals rfl)
      simp only [Act.put]
      refine tame (k := 4) ?_ rfl (by kernel_rfl) (by kernel_rfl) (by kernel_rfl) (by kernel_rfl) (fun _ _ _ h => h) (by kernel_rfl) hS2_0 (fun v hv => ?_) ?_
      rotate_left
      · (obtain ⟨k1, k2, k3, k4⟩ := hv; go_simp; all_goals rfl)
      simp only [Act.put]
      refine tame0 (k := 5) ?_ rfl (by kernel_rfl) (by kernel_rfl) (by kernel_rfl) (fun _ _ _ h => h) (by kernel_rfl) (fun v => ?_) ?_
      rotate_left
      · (go_simp; all_goals rfl)
      simp only [Act.put]
      refine tame0 (k := 6) ?_ rfl (by kernel_rfl) (by kernel_rfl) (by kernel_rfl) (fun _ _ _ h => h) (by kernel_rfl) (fun v => ?_) ?_
      rotate_left
      · (go_simp; all_goals rfl)
      simp only [Act.put]
      refine tame0 (k := 7) ?_ rfl (by kernel_rfl) (by kernel_rfl) (by kernel_rfl) (fun _ _ _ h => h) (by kernel_rfl) (fun v => ?_) ?_
      rotate_left
      · (go_simp; all_goals rfl)
      simp only [Act.put]
      refine tame0 (k := 8) ?_ rfl (by kernel_rfl) (by kernel_rfl) (by kernel_rfl) (fun _ _ _ h => h) (by kernel_rfl) (fun v => ?_) ?_
      rotate_left
      · (go_simp; all_goals rfl)
      simp only [Act.put]
      refine tame0 (k := 9) ?_ rfl (by kernel_rfl) (by kernel_rfl) (by kernel_rfl) (fun _ _ _ h => h) (by kernel_rfl) (fun v => ?_) ?_
      rotate_left
      · (go_simp; all_goals rfl)
      simp only [Act.put]
      refine tame (k := 10) ?_ rfl (by kernel_rfl) (by kernel_rfl) (by kernel_rfl) (by kernel_rfl) (fun _ _ _ h => h) (by kernel_rfl) hS2_0 (fun v hv => ?_) ?_
      rotate_left
      · (obtain ⟨k1, k2, k3, k4⟩ := hv; go_simp; all_goals rfl)
      simp only [Act.put]
      refine tame0 (k := 11) ?_ rfl (by kernel_rfl) (by kernel_rfl) (by kernel_rfl) (fun _ _ _ h => h) (by kernel_rfl) (fun v => ?_) ?_
      rotate_left
      · (go_simp; all_goals rfl)
      simp only [Act.put]
      refine tame_two (i := 12) (j := 13) (by kernel_rfl) rfl rfl (by kernel_rfl) (by kernel_rfl) ?_ ?_
      · go_simp
        refine (l2Kids_c A1 P c1 A2 W.length c2 x _ (h'.below (w' := w6.drew) (Below.refl _ _) (Nat.le_refl _)).r1 hpar hx hn2).mono ?_
        rintro e w8 ⟨Ak, ck, rfl, ok, b8⟩
        have hI := bUp hd2 b8 (Nat.le_refl _)
        refine ⟨by first | exact SK2.out _ hI | exact ⟨(by first | exact (SK2.out _ hI).1), (by first | exact (SK2.out _ hI).2.1), (by first | exact (SK2.out _ hI).2.2.1), (by first | exact (SK2.out _ hI).2.2.2)⟩, ?_⟩
        refine tame_one (k := 13) (by kernel_rfl) rfl (by kernel_rfl) ?_
        go_simp
        have hJ := hI.alloc hI.size (.cells #[.int .i64 0, .int .i64 0] 28)
        refine ⟨by first | exact SK2.out _ hJ | exact SK2.out _ hI | exact ⟨(by first | exact (SK2.out _ hJ).1 | exact (SK2.out _ hI).1), (by first | exact (SK2.out _ hJ).2.1 | exact (SK2.out _ hI).2.1), (by first | exact (SK2.out _ hJ).2.2.1 | exact (SK2.out _ hI).2.2.1), (by first | exact (SK2.out _ hJ).2.2.2 | exact (SK2.out _ hI).2.2.2)⟩, ?_⟩
        have bgI := Bx.new w8 (.int .i64 0) (.int .i64 0) 28
        have bgX := Bx.new w8 (.int .i64 (nth F x * U)) (.int .i64 U) 28
        have hK := hI.alloc hI.size (.cells #[.int .i64 (nth F x * U), .int .i64 U] 28)
        obtain ⟨y0, y1, y2, y3, y4⟩ := id bgI
        refine tame_one (k := 14) (by kernel_rfl) rfl (by kernel_rfl) ?_
        go_simp
        refine ⟨by first | exact SK2.out _ hK | exact SK2.out _ hI | exact ⟨(by first | exact (SK2.out _ hK).1 | exact (SK2.out _ hI).1), (by first | exact (SK2.out _ hK).2.1 | exact (SK2.out _ hI).2.1), (by first | exact (SK2.out _ hK).2.2.1 | exact (SK2.out _ hI).2.2.1), (by first | exact (SK2.out _ hK).2.2.2 | exact (SK2.out _ hI).2.2.2)⟩, ?_⟩
        refine tame_one (k := 15) (by kernel_rfl) rfl (by kernel_rfl) ?_
        go_simp
        refine ⟨by first | exact SK2.out _ hK | exact SK2.out _ hI | exact ⟨(by first | exact (SK2.out _ hK).1 | exact (SK2.out _ hI).1), (by first | exact (SK2.out _ hK).2.1 | exact (SK2.out _ hI).2.1), (by first | exact (SK2.out _ hK).2.2.1 | exact (SK2.out _ hI).2.2.1), (by first | exact (SK2.out _ hK).2.2.2 | exact (SK2.out _ hI).2.2.2)⟩, ?_⟩
        refine tame_end (by kernel_rfl) ?_
        go_wp2_with fail
        go_meet
        exact ⟨_, Ak, ck, rfl, rfl, hI.size, bgX, (ok.mono (Nat.le_refl _)).alloc _, (fun e => by have := ok.ltk _ e; omega), hK⟩
      · go_simp
        have hJ := hd2.alloc (Nat.le_refl _) (.cells #[.int .i64 0, .int .i64 0] 28)
        refine ⟨by first | exact SK2.out _ hJ | exact SK2.out _ hd2 | exact ⟨(by first | exact (SK2.out _ hJ).1 | exact (SK2.out _ hd2).1), (by first | exact (SK2.out _ hJ).2.1 | exact (SK2.out _ hd2).2.1), (by first | exact (SK2.out _ hJ).2.2.1 | exact (SK2.out _ hd2).2.2.1), (by first | exact (SK2.out _ hJ).2.2.2 | exact (SK2.out _ hd2).2.2.2)⟩, ?_⟩
        have bgI : Bx (w6.drew.alloc (.cells #[.int .i64 0, .int .i64 0] 28)) w6.heap.size (.int .i64 0) (.int .i64 0) := Bx.new w6.drew _ _ _
        refine tame_one (k := 12) (by kernel_rfl) rfl (by kernel_rfl) ?_
        go_simp
        refine (l2Kids_c A1 P c1 A2 W.length c2 x _ (h'.below (w' := (w6.drew.alloc (.cells #[.int .i64 0, .int .i64 0] 28))) ((Below.refl _ _).alloc (Nat.le_refl _) _) (Nat.le_refl _)).r1 hpar hx hn2).mono ?_
        rintro e w8 ⟨Ak, ck, rfl, ok, b8⟩
        have hI := bUp hJ b8 hJ.size
        refine ⟨by first | exact SK2.out _ hI | exact ⟨(by first | exact (SK2.out _ hI).1), (by first | exact (SK2.out _ hI).2.1), (by first | exact (SK2.out _ hI).2.2.1), (by first | exact (SK2.out _ hI).2.2.2)⟩, ?_⟩
        have bg6 := bgI.below b8
        have bgX := bx_put bg6 (.int .i64 (nth F x * U)) (.int .i64 U)
        obtain ⟨y0, y1, y2, y3, y4⟩ := id bg6
        have hgg : w6.heap.size ≤ w6.heap.size := Nat.le_refl _
        have hK := (hI.setCell (p := ⟨w6.heap.size, 0, none⟩) hgg (.int .i64 (nth F x * U))).setCell (p := ⟨w6.heap.size, 1, none⟩) hgg (.int .i64 U)
        refine tame_one (k := 14) (by kernel_rfl) rfl (by kernel_rfl) ?_
        go_simp
        refine ⟨by first | exact SK2.out _ hK | exact SK2.out _ hI | exact ⟨(by first | exact (SK2.out _ hK).1 | exact (SK2.out _ hI).1), (by first | exact (SK2.out _ hK).2.1 | exact (SK2.out _ hI).2.1), (by first | exact (SK2.out _ hK).2.2.1 | exact (SK2.out _ hI).2.2.1), (by first | exact (SK2.out _ hK).2.2.2 | exact (SK2.out _ hI).2.2.2)⟩, ?_⟩
        refine tame_one (k := 15) (by kernel_rfl) rfl (by kernel_rfl) ?_
        go_simp
        refine ⟨by first | exact SK2.out _ hK | exact SK2.out _ hI | exact ⟨(by first | exact (SK2.out _ hK).1 | exact (SK2.out _ hI).1), (by first | exact (SK2.out _ hK).2.1 | exact (SK2.out _ hI).2.1), (by first | exact (SK2.out _ hK).2.2.1 | exact (SK2.out _ hI).2.2.1), (by first | exact (SK2.out _ hK).2.2.2 | exact (SK2.out _ hI).2.2.2)⟩, ?_⟩
        refine tame_end (by kernel_rfl) ?_
        go_wp2_with fail
        go_meet
        have nk : blk Ak ≠ some w6.heap.size := fun e => by have := ok.ge _ e; simp at this; omega
        exact ⟨_, Ak, ck, rfl, rfl, hgg, bgX, ((ok.setOther _ _ (.inr nk)).setOther _ _ (.inr nk)).mono (by simp), nk, hK⟩
    case rest =>
      obtain ⟨g, Ak, ck, rfl, rfl, hg, bg, ok, hnk, HX⟩ := hcut
      have sz6 : w.heap.size + 1 < w6.heap.size := br6.2.2.2.2
      have R0 := PaR.mk (w := w) (f := (nth F x * U, U)) (bx6.below HX) (br6.below HX) bg (ok.mono (by omega)) hnk (by omega) (HB6.trans (HX.mono HB6.size))
      have hG0 := Lib.hid (gnK_zero (P := P) (W := W) (F := F) (a := a) (b := b) (nthB bs) x)
      have hT0 := Lib.hid (tmK_zero (P := P) (W := W) (a := a) (b := b) (nthB bs) x)
      clear f0 f1 f2 fz q3 e1 bx6 br6 HB6 bg ok hnk HX hg
      go_wp2_with fail
      go_loopw [15] (fun i wr => ∃ k : Nat, k ≤ (kids P (x : Int)).length ∧ i = .int .i64 (k : Int) ∧ PaR w wr g (gnK P W F a b (nthB bs) x k, tmK P W a b (nthB bs) x k) (.slice A1 P.length c1) (.slice A2 W.length c2) (.slice (some a3) F.length c3) Ak ck (kids P (x : Int))) (fun i _ => (kids P (x : Int)).length - (intOf i).toNat)
      case atStart => exact ⟨0, Nat.zero_le _, rfl, by rw [hG0.out, hT0.out, HU.out]; exact R0⟩
      case round =>
        clear R0 hG0 hT0
        obtain ⟨k, hkl, rfl, R⟩ := hrel
        obtain ⟨v, rfl⟩ : ∃ v : World, v = wr := ⟨_, rfl⟩
        obtain ⟨f0, f1, f2, fz⟩ := id R.bx
        by_cases hlt : k < (kids P (x : Int)).length
        · have j1 : (k : Int) < ((kids P (x : Int)).length : Int) := by omega
          have j0 : (0 : Int) ≤ (k : Int) := by omega
          obtain ⟨gk, rfl, hgk, hgk2⟩ := R.ok.form (by omega)
          have qk := R.ok.cellN hlt
          obtain ⟨y, hy, hxy, hyl, hpy⟩ := kid_at hpar hlt
          rw [hy] at qk
          have HY := Lib.hid hy
          have y0 : (0 : Int) ≤ (y : Int) := by omega
          have y1 : (y : Int) < (P.length : Int) := by omega
          have obv := hob.below R.hb
          have qi := obv.cell (k := y) (by rw [HBL.out]; exact hyl)
          clear hy hpy
          cases hi : nthB bs y
          · rw [hi] at qi
            have HG := Lib.hid (gnK_out (W := W) (F := F) (a := a) (b := b) HY.out hi)
            have HT := Lib.hid (tmK_out (W := W) (a := a) (b := b) HY.out hi)
            clear hi
            go_wp2
            go_roundw
            case rel => exact ⟨k + 1, hlt, by go_num, by rw [HG.out, HT.out]; exact R⟩
            case measure => simp [intOf] <;> omega
          · rw [hi] at qi
            have HG := Lib.hid (gnK_in (W := W) (F := F) (a := a) (b := b) HY.out hi)
            have HT := Lib.hid (tmK_in (W := W) (a := a) (b := b) HY.out hi)
            have B1 := gnK_bd hk (nthB bs) hx k hkl
            have B2 := tmK_bd hk (nthB bs) hx k hkl
            have B3 := aGn_bd hk (nthB bs) y
            have B4 := aTm_bd hk (nthB bs) y
            clear hi
            go_upto_region 8 with fail
            go_cut [16] from 50 to 86 (fun s16 wx => ∃ g2 : Nat, s16 = .pointer (some ⟨g2, 0, none⟩) ∧ v.heap.size ≤ g2 ∧ Bx wx g2 (.int .i64 (gnR P W F a b (nthB bs) y)) (.int .i64 (tmR P W a b (nthB bs) y)) ∧ Below v.heap.size v wx)
            case first =>
              have h' := h.below (Below.drew R.hb) (Nat.le_refl _)
              have ob' := obv.below (Below.drew (Below.refl v.heap.size v))
              have hd3 : Below v.heap.size v v.drew := Below.drew (Below.refl _ _)
              have SK3 : Hid (∀ w', Below v.heap.size v w' → w'.cell? ⟨w.heap.size, 0, none⟩ = some (.slice A1 P.length c1) ∧ w'.cell? ⟨w.heap.size, 1, none⟩ = some (.slice A2 W.length c2) ∧ w'.cell? ⟨w.heap.size, 2, none⟩ = some (.slice (some a3) F.length c3) ∧ w'.cell? ⟨gk, k, none⟩ = some (.int .i64 (y : Int))) := Lib.hid fun w' HV => ⟨(HV.cell (p := ⟨w.heap.size, 0, none⟩) fz).trans f0, (HV.cell (p := ⟨w.heap.size, 1, none⟩) fz).trans f1, (HV.cell (p := ⟨w.heap.size, 2, none⟩) fz).trans f2, (HV.cell (p := ⟨gk, k, none⟩) hgk2).trans qk⟩
              clear f0 f1 f2 qk
              have hS3_0 := SK3.out _ hd3
              refine tamed_region (S := fun w' => w'.cell? ⟨w.heap.size, 0, none⟩ = some (.slice A1 P.length c1) ∧ w'.cell? ⟨w.heap.size, 1, none⟩ = some (.slice A2 W.length c2) ∧ w'.cell? ⟨w.heap.size, 2, none⟩ = some (.slice (some a3) F.length c3) ∧ w'.cell? ⟨gk, k, none⟩ = some (.int .i64 (y : Int))) (fun _ => false) (by kernel_rfl) ?_
              refine tame (k := 0) ?_ rfl (by kernel_rfl) (by kernel_rfl) (by kernel_rfl) (by kernel_rfl) (fun _ _ _ h => h) (by kernel_rfl) hS3_0 (fun v hv => ?_) ?_
              rotate_left
              · (obtain ⟨k1, k2, k3, k4⟩ := hv; go_simp; all_goals rfl)
              simp only [Act.put, List.setIfInBounds_toArray]
              refine tame0 (k := 1) ?_ rfl (by kernel_rfl) (by kernel_rfl) (by kernel_rfl) (fun _ _ _ h => h) (by kernel_rfl) (fun v => ?_) ?_
              rotate_left
              · (go_simp; all_goals rfl)
              simp only [Act.put]
              refine tame0 (k := 2) ?_ rfl (by kernel_rfl) (by kernel_rfl) (by kernel_rfl) (fun _ _ _ h => h) (by kernel_rfl) (fun v => ?_) ?_
              rotate_left
              · (go_simp; all_goals rfl)
              simp only [Act.put]
              refine tame0 (k := 3) ?_ rfl (by kernel_rfl) (by kernel_rfl) (by kernel_rfl) (fun _ _ _ h => h) (by kernel_rfl) (fun v => ?_) ?_
              rotate_left
              · (go_simp; all_goals rfl)
              simp only [Act.put]
              refine tame0 (k := 4) ?_ rfl (by kernel_rfl) (by kernel_rfl) (by kernel_rfl) (fun _ _ _ h => h) (by kernel_rfl) (fun v => ?_) ?_
              rotate_left
              · (go_simp; all_goals rfl)
              simp only [Act.put]
              refine tame0 (k := 5) ?_ rfl (by kernel_rfl) (by kernel_rfl) (by kernel_rfl) (fun _ _ _ h => h) (by kernel_rfl) (fun v => ?_) ?_
              rotate_left
              · (go_simp; all_goals rfl)
              simp only [Act.put]
              refine tame0 (k := 6) ?_ rfl (by kernel_rfl) (by kernel_rfl) (by kernel_rfl) (fun _ _ _ h => h) (by kernel_rfl) (fun v => ?_) ?_
              rotate_left
              · (go_simp; all_goals rfl)
              simp only [Act.put]
              refine tame (k := 7) ?_ rfl (by kernel_rfl) (by kernel_rfl) (by kernel_rfl) (by kernel_rfl) (fun _ _ _ h => h) (by kernel_rfl) hS3_0 (fun v hv => ?_) ?_
              rotate_left
              · (obtain ⟨k1, k2, k3, k4⟩ := hv; go_simp; all_goals rfl)
              simp only [Act.put]
              refine tame_two (i := 8) (j := 9) (by kernel_rfl) rfl rfl (by kernel_rfl) (by kernel_rfl) ?_ ?_
              · go_simp
                refine (ih y _ (by have := HN.out; omega) hyl (h'.below (w' := v.drew) (Below.refl _ _) (Nat.le_refl _)) (ob'.below (w' := v.drew) (Below.refl _ _))).mono ?_
                rintro e w8 ⟨rfl, b8⟩
                have hI := bUp hd3 b8 (Nat.le_refl _)
                refine ⟨by first | exact SK3.out _ hI | exact ⟨(by first | exact (SK3.out _ hI).1), (by first | exact (SK3.out _ hI).2.1), (by first | exact (SK3.out _ hI).2.2.1), (by first | exact (SK3.out _ hI).2.2.2)⟩, ?_⟩
                refine tame_one (k := 9) (by kernel_rfl) rfl (by kernel_rfl) ?_
                go_simp
                have hJ := hI.alloc hI.size (.cells #[.int .i64 0, .int .i64 0] 28)
                refine ⟨by first | exact SK3.out _ hJ | exact SK3.out _ hI | exact ⟨(by first | exact (SK3.out _ hJ).1 | exact (SK3.out _ hI).1), (by first | exact (SK3.out _ hJ).2.1 | exact (SK3.out _ hI).2.1), (by first | exact (SK3.out _ hJ).2.2.1 | exact (SK3.out _ hI).2.2.1), (by first | exact (SK3.out _ hJ).2.2.2 | exact (SK3.out _ hI).2.2.2)⟩, ?_⟩
                have bgI := Bx.new w8 (.int .i64 0) (.int .i64 0) 28
                have bgX := Bx.new w8 (.int .i64 (gnR P W F a b (nthB bs) y)) (.int .i64 (tmR P W a b (nthB bs) y)) 28
                have hK := hI.alloc hI.size (.cells #[.int .i64 (gnR P W F a b (nthB bs) y), .int .i64 (tmR P W a b (nthB bs) y)] 28)
                obtain ⟨y0, y1, y2, y3, y4⟩ := id bgI
                refine tame_one (k := 10) (by kernel_rfl) rfl (by kernel_rfl) ?_
                go_simp
                refine ⟨by first | exact SK3.out _ hK | exact SK3.out _ hI | exact ⟨(by first | exact (SK3.out _ hK).1 | exact (SK3.out _ hI).1), (by first | exact (SK3.out _ hK).2.1 | exact (SK3.out _ hI).2.1), (by first | exact (SK3.out _ hK).2.2.1 | exact (SK3.out _ hI).2.2.1), (by first | exact (SK3.out _ hK).2.2.2 | exact (SK3.out _ hI).2.2.2)⟩, ?_⟩
                refine tame_end (by kernel_rfl) ?_
                go_wp2_with fail
                go_meet
                exact ⟨_, rfl, hI.size, bgX, hK⟩
              · go_simp
                have hJ := hd3.alloc (Nat.le_refl _) (.cells #[.int .i64 0, .int .i64 0] 28)
                refine ⟨by first | exact SK3.out _ hJ | exact SK3.out _ hd3 | exact ⟨(by first | exact (SK3.out _ hJ).1 | exact (SK3.out _ hd3).1), (by first | exact (SK3.out _ hJ).2.1 | exact (SK3.out _ hd3).2.1), (by first | exact (SK3.out _ hJ).2.2.1 | exact (SK3.out _ hd3).2.2.1), (by first | exact (SK3.out _ hJ).2.2.2 | exact (SK3.out _ hd3).2.2.2)⟩, ?_⟩
                have bgI : Bx (v.drew.alloc (.cells #[.int .i64 0, .int .i64 0] 28)) v.heap.size (.int .i64 0) (.int .i64 0) := Bx.new v.drew _ _ _
                refine tame_one (k := 8) (by kernel_rfl) rfl (by kernel_rfl) ?_
                go_simp
                refine (ih y _ (by have := HN.out; omega) hyl (h'.below (w' := (v.drew.alloc (.cells #[.int .i64 0, .int .i64 0] 28))) ((Below.refl _ _).alloc (Nat.le_refl _) _) (Nat.le_refl _)) (ob'.below (w' := (v.drew.alloc (.cells #[.int .i64 0, .int .i64 0] 28))) ((Below.refl _ _).alloc (Nat.le_refl _) _))).mono ?_
                rintro e w8 ⟨rfl, b8⟩
                have hI := bUp hJ b8 hJ.size
                refine ⟨by first | exact SK3.out _ hI | exact ⟨(by first | exact (SK3.out _ hI).1), (by first | exact (SK3.out _ hI).2.1), (by first | exact (SK3.out _ hI).2.2.1), (by first | exact (SK3.out _ hI).2.2.2)⟩, ?_⟩
                have bg6 := bgI.below b8
                have bgX := bx_put bg6 (.int .i64 (gnR P W F a b (nthB bs) y)) (.int .i64 (tmR P W a b (nthB bs) y))
                obtain ⟨y0, y1, y2, y3, y4⟩ := id bg6
                have hgg : v.heap.size ≤ v.heap.size := Nat.le_refl _
                have hK := (hI.setCell (p := ⟨v.heap.size, 0, none⟩) hgg (.int .i64 (gnR P W F a b (nthB bs) y))).setCell (p := ⟨v.heap.size, 1, none⟩) hgg (.int .i64 (tmR P W a b (nthB bs) y))
                refine tame_one (k := 10) (by kernel_rfl) rfl (by kernel_rfl) ?_
                go_simp
                refine ⟨by first | exact SK3.out _ hK | exact SK3.out _ hI | exact ⟨(by first | exact (SK3.out _ hK).1 | exact (SK3.out _ hI).1), (by first | exact (SK3.out _ hK).2.1 | exact (SK3.out _ hI).2.1), (by first | exact (SK3.out _ hK).2.2.1 | exact (SK3.out _ hI).2.2.1), (by first | exact (SK3.out _ hK).2.2.2 | exact (SK3.out _ hI).2.2.2)⟩, ?_⟩
                refine tame_end (by kernel_rfl) ?_
                go_wp2_with fail
                go_meet
                exact ⟨_, rfl, hgg, bgX, hK⟩
            case rest =>
              obtain ⟨g2, rfl, hg2, bg2, HX⟩ := hcut
              have R2 := R.below HX
              clear R f0 f1 f2 fz qk qi obv HX
              obtain ⟨p0, p1, p2, p3, p4⟩ := id R2.bg
              obtain ⟨u0, u1, u2, u3, u4⟩ := id bg2
              have RS := R2.set (gnK P W F a b (nthB bs) x k + a * gnR P W F a b (nthB bs) y) (tmK P W a b (nthB bs) x k + a * tmR P W a b (nthB bs) y)
              clear R2
              go_wp2
              go_roundw
              case rel => exact ⟨k + 1, hlt, by go_num, by rw [HG.out, HT.out]; exact RS⟩
              case measure => simp [intOf] <;> omega
        · obtain rfl : k = (kids P (x : Int)).length := by omega
          have HG := Lib.hid (gnK_all (W := W) (F := F) (a := a) (b := b) hpar (i := nthB bs) hx)
          have HT := Lib.hid (tmK_all (W := W) (a := a) (b := b) hpar (i := nthB bs) hx)
          obtain ⟨p0, p1, p2, p3, p4⟩ := id R.bg
          rw [HG.out] at p0
          rw [HT.out] at p1
          obtain ⟨r0, r1, r2, r3, r4⟩ := id R.br
          go_wp2
          exact bodyPost_ret (v := .agg #[.int .i64 (gnR P W F a b (nthB bs) x), .int .i64 (tmR P W a b (nthB bs) x)]) (by simp [results, Try.results29, go_sem, r0, r1]) rfl ⟨rfl, by with_reducible repeat (first | exact R.hb | refine Below.setCell ?_ (by simp <;> omega) _)⟩
end Go.Proofs.Ytdhagkckkdaenaa
