/- Prices at all nodes: the reference's walk. (Written by gen_prd.py.) -/
import Derived.Test.YtnhclpajfejnoaaPrM
import Derived.Deep.CutBlock
namespace Go.Proofs.Ytnhclpajfejnoaa
open Go.RowKit

/-- A market and claims with prices. -/
structure PrOk (P W F C : List Int) : Prop where
  tree : TreeOk P W
  len : F.length = P.length
  f20 : allB F 0 20 = true
  clm : clmB P C = true
  un : ∀ j, j < P.length → unB P F j = false
/-- While prices are filled in. -/
structure PrR (w wr : World) (go co : Nat) (out : List (Int × Int)) (x y z : Value) : Prop where
  o : OwnP wr (w.heap.size + 1) (some ⟨go, 0, none⟩) co out
  b : Bx3 wr w.heap.size x y z
  hb : Below w.heap.size w wr
theorem PrR.below {w wr w' : World} {go co : Nat} {out : List (Int × Int)} {x y z : Value} (R : PrR w wr go co out x y z) (h : Below wr.heap.size wr w') : PrR w w' go co out x y z := ⟨R.o.below h, R.b.below h, bUp R.hb h R.hb.size⟩
theorem PrR.lt {w wr : World} {go co : Nat} {out : List (Int × Int)} {x y z : Value} (R : PrR w wr go co out x y z) : go < wr.heap.size ∧ w.heap.size + 1 ≤ go ∧ w.heap.size < wr.heap.size := ⟨R.o.ltk go rfl, R.o.ge go rfl, R.b.2.2.2⟩
theorem PrR.set {w wr : World} {go co k : Nat} {out : List (Int × Int)} {x y z : Value} (R : PrR w wr go co out x y z) (s t : Int) (hk : k < out.length) : PrR w ((wr.setCell ⟨go, k * 2, none⟩ (.int .i64 s)).setCell ⟨go, k * 2 + 1, none⟩ (.int .i64 t)) go co (out.set k (s, t)) x y z := by
  have hge : w.heap.size + 1 ≤ go := R.o.ge go rfl
  have h2 := R.o.set2 s t hk
  exact ⟨h2.1, R.b.grown h2.2 (by omega), R.hb.grown h2.2 R.hb.size (fun j hj => by cases hj; omega)⟩
theorem PrR.other {w wr w' : World} {go co r : Nat} {out : List (Int × Int)} {x y z : Value} (R : PrR w wr go co out x y z) (hg : wr.grownBy w' (some r)) (hr : go < r) : PrR w w' go co out x y z := by
  have hl := R.lt
  exact ⟨R.o.grown hg (.inr (by simp [blk]; omega)), R.b.grown hg (by omega), R.hb.grown hg R.hb.size (fun j hj => by cases hj; omega)⟩
theorem bx_put {W : World} {g : Nat} {x y : Value} (h : Bx W g x y) (x' y' : Value) : Bx ((W.setCell ⟨g, 0, none⟩ x').setCell ⟨g, 1, none⟩ y') g x' y' := by
  obtain ⟨h0, h1, h2, h3, h4⟩ := h
  refine ⟨by simp [go_sem, h0], by simp [go_sem, h1], by simp [go_sem, h2], by simp [go_sem, h3], by simpa [World.size_setCell] using h4⟩
def prO (up : Bool) (P F C : List Int) : List (Int × Int) := (stL up P F C P.length).getD []
def prK (up : Bool) (P F C : List Int) : Bool := (stL up P F C P.length).isSome
theorem stTo_step {P C : List Int} {k : Nat} : stTo P C (k + 1) = (stTo P C k).set (nth (endL P) k).toNat (nth C k, 1) := rfl

set_option maxRecDepth 20000 in
set_option maxHeartbeats 4000000 in
theorem l6Prices_c (A1 : Option Addr) (P : List Int) (c1 : Nat) (A2 : Option Addr) (W : List Int) (c2 : Nat) (A3 : Option Addr) (F : List Int) (c3 : Nat) (A7 : Option Addr) (C : List Int) (c7 : Nat) (up : Bool) (w : World) (h : RdM w A1 P A2 W A3 F) (h7 : Rd w A7 (ints C)) (hk : PrOk P W F C) :
    Calls Try.prog 74 #[mkV A1 P.length c1 A2 W.length c2 A3 F.length c3, .slice A7 C.length c7, .bool up] w (GivesP w (prO up P F C) (prK up P F C)) := by
  have HB0 : Below w.heap.size w (w.alloc (.cells #[.slice A1 P.length c1, .slice A2 W.length c2, .slice A3 F.length c3] 28)) := (Below.refl _ _).alloc (Nat.le_refl _) _
  have bx0 := Bx3.new w (.slice A1 P.length c1) (.slice A2 W.length c2) (.slice A3 F.length c3) 28
  have hpar := hk.tree.par
  have hn1 := hk.tree.n1
  have hn2 := hk.tree.n2
  have HFL := Lib.hid hk.len
  have HWL := Lib.hid hk.tree.len
  have HCL : Hid (C.length = (endL P).length) := Lib.hid (by have := hk.clm; simp only [clmB, Bool.and_eq_true, decide_eq_true_eq] at this; exact this.1)
  have hle := enTo_len P P.length
  change (endL P).length ≤ _ at hle
  go_enter Try.func74, Try.ntmps74
  go_upto_region 1 with fail
  generalize w.alloc (.cells #[.slice A1 P.length c1, .slice A2 W.length c2, .slice A3 F.length c3] 28) = v at *
  go_cut [8, 9] (fun s8 s9 wx => ∃ (go : Nat) (Ae : Option Addr) (ce : Nat), s8 = .slice (some ⟨go, 0, none⟩) P.length P.length ∧ s9 = .slice Ae (endL P).length ce ∧ PrR w wx go P.length (stTo P C 0) (.slice A1 P.length c1) (.slice A2 W.length c2) (.slice A3 F.length c3) ∧ Own wx (w.heap.size + 1) Ae ce (endL P) ∧ blk Ae ≠ some go)
  case first =>
    obtain ⟨f0, f1, f2, fz⟩ := id bx0
    have hd : Below v.heap.size v v.drew := Below.drew (Below.refl _ _)
    have SK : Hid (∀ w', Below v.heap.size v w' → w'.cell? ⟨w.heap.size, 0, none⟩ = some (.slice A1 P.length c1) ∧ w'.cell? ⟨w.heap.size, 1, none⟩ = some (.slice A2 W.length c2) ∧ w'.cell? ⟨w.heap.size, 2, none⟩ = some (.slice A3 F.length c3)) :=
      Lib.hid fun w' HV => ⟨(HV.cell (p := ⟨w.heap.size, 0, none⟩) fz).trans f0, (HV.cell (p := ⟨w.heap.size, 1, none⟩) fz).trans f1, (HV.cell (p := ⟨w.heap.size, 2, none⟩) fz).trans f2⟩
    clear f0 f1 f2
    have hS0 := SK.out v.drew hd
    have hr := (h.below (Below.drew HB0) (Nat.le_refl _))
    have hl24 : F.length ≤ 16777216 := h.l3
    refine tamed_region (S := fun w' => w'.cell? ⟨w.heap.size, 0, none⟩ = some (.slice A1 P.length c1) ∧ w'.cell? ⟨w.heap.size, 1, none⟩ = some (.slice A2 W.length c2) ∧ w'.cell? ⟨w.heap.size, 2, none⟩ = some (.slice A3 F.length c3)) (fun _ => false) (by kernel_rfl) ?_
    refine tame0 (k := 0) ?_ rfl (by kernel_rfl) (by kernel_rfl) (by kernel_rfl) (fun _ _ _ h => h) (by kernel_rfl) (fun v => ?_) ?_
    rotate_left
    · (go_simp; all_goals rfl)
    simp only [Act.put, List.setIfInBounds_toArray]
    refine tame (k := 1) ?_ rfl (by kernel_rfl) (by kernel_rfl) (by kernel_rfl) (by kernel_rfl) (fun _ _ _ h => h) (by kernel_rfl) hS0 (fun v hv => ?_) ?_
    rotate_left
    · (obtain ⟨k1, k2, k3⟩ := hv; go_simp; all_goals rfl)
    simp only [Act.put]
    refine tame0 (k := 2) ?_ rfl (by kernel_rfl) (by kernel_rfl) (by kernel_rfl) (fun _ _ _ h => h) (by kernel_rfl) (fun v => ?_) ?_
    rotate_left
    · (go_simp; all_goals rfl)
    simp only [Act.put]
    refine tame0 (k := 4) ?_ rfl (by kernel_rfl) (by kernel_rfl) (by kernel_rfl) (fun _ _ _ h => h) (by kernel_rfl) (fun v => ?_) ?_
    rotate_left
    · (go_simp; all_goals rfl)
    simp only [Act.put]
    refine tame (k := 5) ?_ rfl (by kernel_rfl) (by kernel_rfl) (by kernel_rfl) (by kernel_rfl) (fun _ _ _ h => h) (by kernel_rfl) hS0 (fun v hv => ?_) ?_
    rotate_left
    · (obtain ⟨k1, k2, k3⟩ := hv; go_simp; all_goals rfl)
    simp only [Act.put]
    clear hS0
    refine tame_two (i := 3) (j := 6) (by kernel_rfl) rfl rfl (by kernel_rfl) (by kernel_rfl) ?_ ?_
    · refine op_make_pairs _ (.tmp 18) (.tmp 18) rfl _ _ _ _ F.length rfl rfl rfl rfl hl24 ?_
      intro w3 om b3
      have H3 := bUp hd b3 (Nat.le_refl _)
      refine ⟨fun _ => SK.out _ H3, ?_⟩
      refine tame_one (k := 6) (by kernel_rfl) rfl (by kernel_rfl) ?_
      go_simp
      refine (l2Ends_c A1 P c1 A2 W.length c2 _ (hr.below b3 (Nat.le_refl _)).r1 hpar hn2).mono ?_
      rintro e w4 ⟨Ae, ce, rfl, oe, b4⟩
      have H4 := bUp H3 b4 H3.size
      refine ⟨by first | exact SK.out _ H4 | exact fun _ => SK.out _ H4, ?_⟩
      refine tame_one (k := 7) (by kernel_rfl) rfl (by kernel_rfl) ?_
      go_simp
      refine ⟨by first | exact SK.out _ H4, ?_⟩
      refine tame_one (k := 8) (by kernel_rfl) rfl (by kernel_rfl) ?_
      go_simp
      refine ⟨by first | exact SK.out _ H4, ?_⟩
      refine tame_end (by kernel_rfl) ?_
      go_wp2_with fail
      go_meet
      have OM := (om.below b4).mono (B' := w.heap.size + 1) (by have hdz : v.drew.heap.size = v.heap.size := rfl; have h3s := H3.size; have := H4.size; omega)
      rw [HFL.out] at OM
      exact ⟨_, Ae, ce, congrArg (fun k => Value.slice _ k k) HFL.out, rfl, ⟨OM, bx0.below H4, HB0.trans (H4.mono HB0.size)⟩, oe.mono (by have hdz : v.drew.heap.size = v.heap.size := rfl; have h3s := H3.size; have := H4.size; omega), (fun e => by have h1 := oe.ge _ e; have h2 := om.ltk _ rfl; simp at h1 h2; omega)⟩
    · go_simp
      refine (l2Ends_c A1 P c1 A2 W.length c2 _ hr.r1 hpar hn2).mono ?_
      rintro e w3 ⟨Ae, ce, rfl, oe, b3⟩
      have H3 := bUp hd b3 (Nat.le_refl _)
      refine ⟨by first | exact SK.out _ H3 | exact fun _ => SK.out _ H3, ?_⟩
      refine tame_one (k := 3) (by kernel_rfl) rfl (by kernel_rfl) ?_
      refine op_make_pairs _ (.tmp 18) (.tmp 18) rfl _ _ _ _ F.length rfl rfl rfl rfl hl24 ?_
      intro w4 om b4
      have H4 := bUp H3 b4 H3.size
      refine ⟨fun _ => SK.out _ H4, ?_⟩
      refine tame_one (k := 7) (by kernel_rfl) rfl (by kernel_rfl) ?_
      go_simp
      refine ⟨by first | exact SK.out _ H4, ?_⟩
      refine tame_one (k := 8) (by kernel_rfl) rfl (by kernel_rfl) ?_
      go_simp
      refine ⟨by first | exact SK.out _ H4, ?_⟩
      refine tame_end (by kernel_rfl) ?_
      go_wp2_with fail
      go_meet
      have OM := om.mono (B' := w.heap.size + 1) (by have hdz : v.drew.heap.size = v.heap.size := rfl; have h3s := H3.size; have := H4.size; omega)
      rw [HFL.out] at OM
      exact ⟨_, Ae, ce, congrArg (fun k => Value.slice _ k k) HFL.out, rfl, ⟨OM, bx0.below H4, HB0.trans (H4.mono HB0.size)⟩, (oe.below b4).mono (by have hdz : v.drew.heap.size = v.heap.size := rfl; have h3s := H3.size; have := H4.size; omega), (fun e => by have h1 := oe.ltk _ e; simp at h1)⟩
  case rest =>
    obtain ⟨go, Ae, ce, rfl, rfl, R, oe, ne⟩ := hcut
    clear bx0 HB0
    go_wp2_with fail
    go_loopw [10] (fun i wr => ∃ k : Nat, k ≤ (endL P).length ∧ i = .int .i64 (k : Int) ∧ PrR w wr go P.length (stTo P C k) (.slice A1 P.length c1) (.slice A2 W.length c2) (.slice A3 F.length c3) ∧ Own wr (w.heap.size + 1) Ae ce (endL P)) (fun i _ => (endL P).length - (intOf i).toNat)
    case atStart => exact ⟨0, by omega, rfl, R, oe⟩
    case round =>
      clear R oe
      obtain ⟨k, hkl, rfl, R, oe⟩ := hrel
      obtain ⟨v, rfl⟩ : ∃ v : World, v = wr := ⟨_, rfl⟩
      by_cases hlt : k < (endL P).length
      · obtain ⟨j, hj, hje, hjn⟩ := endL_nth hlt
        obtain ⟨ae, rfl, qe⟩ := oe.rd.intN hlt
        rw [hjn] at qe
        obtain ⟨a7, rfl, q7⟩ := (h7.below R.hb (Nat.le_refl _)).intN (k := k) (by have := HCL.out; omega)
        have HJ := Lib.hid hjn
        clear hjn hje
        have i0 : (0 : Int) ≤ (k : Int) := by omega
        have i1 : (k : Int) < ((endL P).length : Int) := by omega
        have i2 : (k : Int) < (C.length : Int) := by have := HCL.out; omega
        have i3 : (0 : Int) ≤ (j : Int) := by omega
        have i4 : (j : Int) < (P.length : Int) := by omega
        have R1 := R.below (w' := v.drew) (Below.drew (Below.refl _ _))
        obtain ⟨u0, u1, qu0, qu1⟩ := R.o.some2 (k := j) (by rw [stTo_length]; exact hj)
        have z0 := R.o.frozen (j * 2)
        have z1 := R.o.frozen (j * 2 + 1)
        have RS := R1.set (nth C k) 1 (k := j) (by rw [stTo_length]; exact hj)
        have oes := (oe.drew).grown (R1.o.set2 (nth C k) 1 (k := j) (by rw [stTo_length]; exact hj)).2 (.inr (by simpa [blk] using ne))
        have HST : Hid ((stTo P C k).set j (nth C k, 1) = stTo P C (k + 1)) := Lib.hid (by rw [stTo_step, HJ.out, Int.toNat_natCast])
        rw [HST.out] at RS
        have HQ := Lib.hid (And.intro qu0 (And.intro qu1 (And.intro z0 z1)))
        clear qu0 qu1 z0 z1
        go_upto_region 5 with fail
        have hS0 : v.drew.cell? (ae.add k) = some (.int .i64 (j : Int)) ∧ v.drew.cell? (a7.add k) = some (.int .i64 (nth C k)) := ⟨qe, q7⟩
        clear qe q7
        refine tamed_region (S := fun w' => w'.cell? (ae.add k) = some (.int .i64 (j : Int)) ∧ w'.cell? (a7.add k) = some (.int .i64 (nth C k))) (fun j => j == 11) (by kernel_rfl) ?_
        refine tame0 (k := 0) ?_ rfl (by kernel_rfl) (by kernel_rfl) (by kernel_rfl) (fun _ _ _ h => h) (by kernel_rfl) (fun v => ?_) ?_
        rotate_left
        · (go_simp; all_goals rfl)
        simp only [Act.put, List.setIfInBounds_toArray]
        refine tame0 (k := 1) ?_ rfl (by kernel_rfl) (by kernel_rfl) (by kernel_rfl) (fun _ _ _ h => h) (by kernel_rfl) (fun v => ?_) ?_
        rotate_left
        · (go_simp; all_goals rfl)
        simp only [Act.put]
        refine tame0 (k := 2) ?_ rfl (by kernel_rfl) (by kernel_rfl) (by kernel_rfl) (fun _ _ _ h => h) (by kernel_rfl) (fun v => ?_) ?_
        rotate_left
        · (go_simp; all_goals rfl)
        simp only [Act.put]
        refine tame0 (k := 3) ?_ rfl (by kernel_rfl) (by kernel_rfl) (by kernel_rfl) (fun _ _ _ h => h) (by kernel_rfl) (fun v => ?_) ?_
        rotate_left
        · (go_simp; all_goals rfl)
        simp only [Act.put]
        refine tame (k := 4) ?_ rfl (by kernel_rfl) (by kernel_rfl) (by kernel_rfl) (by kernel_rfl) (fun _ _ _ h => h) (by kernel_rfl) hS0 (fun v hv => ?_) ?_
        rotate_left
        · (obtain ⟨k1, k2⟩ := hv; go_simp; all_goals rfl)
        simp only [Act.put]
        refine tame0 (k := 5) ?_ rfl (by kernel_rfl) (by kernel_rfl) (by kernel_rfl) (fun _ _ _ h => h) (by kernel_rfl) (fun v => ?_) ?_
        rotate_left
        · (go_simp; all_goals rfl)
        simp only [Act.put]
        refine tame0 (k := 6) ?_ rfl (by kernel_rfl) (by kernel_rfl) (by kernel_rfl) (fun _ _ _ h => h) (by kernel_rfl) (fun v => ?_) ?_
        rotate_left
        · (go_simp; all_goals rfl)
        simp only [Act.put]
        refine tame0 (k := 7) ?_ rfl (by kernel_rfl) (by kernel_rfl) (by kernel_rfl) (fun _ _ _ h => h) (by kernel_rfl) (fun v => ?_) ?_
        rotate_left
        · (go_simp; all_goals rfl)
        simp only [Act.put]
        refine tame (k := 8) ?_ rfl (by kernel_rfl) (by kernel_rfl) (by kernel_rfl) (by kernel_rfl) (fun _ _ _ h => h) (by kernel_rfl) hS0 (fun v hv => ?_) ?_
        rotate_left
        · (obtain ⟨k1, k2⟩ := hv; go_simp; all_goals rfl)
        simp only [Act.put]
        refine tame0 (k := 9) ?_ rfl (by kernel_rfl) (by kernel_rfl) (by kernel_rfl) (fun _ _ _ h => h) (by kernel_rfl) (fun v => ?_) ?_
        rotate_left
        · (go_simp; all_goals rfl)
        simp only [Act.put]
        refine tame0 (k := 10) ?_ rfl (by kernel_rfl) (by kernel_rfl) (by kernel_rfl) (fun _ _ _ h => h) (by kernel_rfl) (fun v => ?_) ?_
        rotate_left
        · (go_simp; all_goals rfl)
        simp only [Act.put]
        clear hS0
        obtain ⟨qu0, qu1, z0, z1⟩ := HQ.out
        refine tame_one (k := 11) (by kernel_rfl) rfl (by kernel_rfl) ?_
        go_simp
        refine tame_end (by kernel_rfl) ?_
        go_wp2_with fail
        go_roundw
        case rel => exact ⟨k + 1, hlt, by go_num, RS, oes⟩
        case measure => simp [intOf] <;> omega
      · have hkn : k = (endL P).length := by omega
        subst hkn
        clear oe
        have R0 := R
        clear R
        go_wp2_with fail
        go_loopw [11] (fun i wr => ∃ (k : Nat) (j : Int) (out : List (Int × Int)), k ≤ P.length ∧ j + 1 = (k : Int) ∧ i = .int .i64 j ∧ stL up P F C (P.length - k) = some out ∧ PrInv P k out ∧ PrR w wr go P.length out (.slice A1 P.length c1) (.slice A2 W.length c2) (.slice A3 F.length c3)) (fun i _ => (intOf i + 1).toNat)
        case atStart => exact ⟨P.length, (P.length : Int) - 1, stTo P C (endL P).length, Nat.le_refl _, by omega, rfl, by rw [Nat.sub_self]; rfl, inv_start hk.clm, R0⟩
        case round =>
          clear R0
          obtain ⟨k, j, out, hkl, hj, rfl, hst, hiv, R⟩ := hrel
          obtain ⟨v, rfl⟩ : ∃ v : World, v = wr := ⟨_, rfl⟩
          rcases k with _ | x
          · obtain rfl : j = -1 := by omega
            have HO : Hid (prO up P F C = out) := Lib.hid (by rw [prO]; rw [Nat.sub_zero] at hst; rw [hst]; rfl)
            have HK : Hid (prK up P F C = true) := Lib.hid (by rw [prK]; rw [Nat.sub_zero] at hst; rw [hst]; rfl)
            have HL := Lib.hid hiv.len
            clear hst
            go_wp2_with fail
            go_ret2
            exact ⟨_, _, by rw [HO.out, HK.out, HL.out] <;> rfl, by rw [HO.out]; exact R.o.mono (by omega), R.hb⟩
          · obtain rfl : j = (x : Int) := by omega
            have hx : x < P.length := by omega
            have HST := Lib.hid (stL_step hx hst)
            have HSN := Lib.hid (@stL_none up P F C (P.length - x))
            have hj2 := hj
            clear hst hj
            have i0 : (0 : Int) ≤ (x : Int) := by omega
            have i1 : (x : Int) < (P.length : Int) := by omega
            have i2 : (x : Int) < (W.length : Int) := by have := HWL.out; omega
            obtain ⟨a2, rfl, q2⟩ := (h.below R.hb (Nat.le_refl _)).r2.intN (k := x) (by rw [HWL.out]; exact hx)
            obtain ⟨f0, f1, f2, fz⟩ := id R.b
            cases he : endB P x
            · have hw : ¬ 0 < nth W x := fun hw => by rw [(hk.tree.end_iff hx).2 hw] at he; cases he
              have HE := Lib.hid he
              clear he
              go_wp2_with fail
              refine (l6Choices_c A1 P c1 (some a2) W.length c2 A3 F c3 go P.length (w.heap.size + 1) out x v (h.below R.hb (Nat.le_refl _)).r1 (h.below R.hb (Nat.le_refl _)).r3 R.o hpar hn2 HFL.out hk.f20 hx hiv).mono ?_
              rintro e w5 ⟨AL, cL, rfl, oL, b5⟩
              have R5 := R.below b5
              have HGO : Hid (go < w5.heap.size) := Lib.hid (by have := R.lt; have := b5.size; omega)
              have hpos := chL_pos (out := out) HE.out (hk.un x hx)
              have hbd := chL_bd hpar hk.f20 hiv
              have hlen : (chL P F out x).length ≤ 600 := by
                have h1 := chT_len P F out x (Nat.le_trans (kidTo_len P x P.length) hn2) (kids P (x : Int)).length
                have h2 : (kids P (x : Int)).length ≤ 24 := Nat.le_trans (kidTo_len P x P.length) hn2
                have h3 : (chL P F out x).length = (chT P F out x (kids P (x : Int)).length).length := rfl
                omega
              have HY : Hid ((chL P F out x).all frP = true → stL up P F C (P.length - x) = some (out.set x (topOf up (chL P F out x))) ∧ PrInv P x (out.set x (topOf up (chL P F out x)))) := Lib.hid fun ha => by
                have hs : stepX up P F x out = some (out.set x (topOf up (chL P F out x))) := by simp [stepX, HE.out, ha]
                exact ⟨by rw [HST.out, hs], inv_step hiv hx (hk.un x hx) hs⟩
              have HNO : Hid ((chL P F out x).all frP = false → prO up P F C = [] ∧ prK up P F C = false) := Lib.hid fun ha => by
                have hs : stepX up P F x out = none := by simp [stepX, HE.out, ha]
                have hn := HSN.out (by rw [HST.out, hs]) P.length (by omega)
                exact ⟨by rw [prO, hn]; rfl, by rw [prK, hn]; rfl⟩
              generalize chL P F out x = L at *
              obtain ⟨gL, rfl, hgL, hgL2⟩ := oL.form hpos
              obtain ⟨q0, q1⟩ := oL.cells hpos
              rw [Nat.zero_mul] at q0 q1
              have l0 : (0 : Int) < (L.length : Int) := by omega
              have bB := Bx.new w5 (.int .i64 (pT L 0)) (.int .i64 (pB L 0)) 40
              have ha6 : Below w5.heap.size w5 (w5.alloc (.cells #[.int .i64 (pT L 0), .int .i64 (pB L 0)] 40)) := (Below.refl _ _).alloc (Nat.le_refl _) _
              have R6 := R5.below ha6
              have oL6 := oL.below ha6
              clear b5 R R5 f0 f1 f2 fz ha6 oL
              go_upto_block 4 with fail
              generalize w5.alloc (.cells #[.int .i64 (pT L 0), .int .i64 (pB L 0)] 40) = w6 at *
              go_cut [14] from 61 to 88 (fun _ wx => ∃ b1 b2 : Int, Bx wx w5.heap.size (.int .i64 b1) (.int .i64 b2) ∧ (L.all frP = true → (b1, b2) = topOf up L) ∧ OwnP wx v.heap.size (some ⟨gL, 0, none⟩) cL L ∧ PrR w wx go P.length out (.slice A1 P.length c1) (.slice (some a2) W.length c2) (.slice A3 F.length c3))
              case first =>
                go_wp2_with fail
                go_loopw [14] (fun i wr => ∃ m : Nat, 1 ≤ m ∧ m ≤ L.length ∧ i = .int .i64 (m : Int) ∧ Bx wr w5.heap.size (.int .i64 (bestTo up L (m - 1)).1) (.int .i64 (bestTo up L (m - 1)).2) ∧ OwnP wr v.heap.size (some ⟨gL, 0, none⟩) cL L ∧ PrR w wr go P.length out (.slice A1 P.length c1) (.slice (some a2) W.length c2) (.slice A3 F.length c3)) (fun i _ => L.length - (intOf i).toNat)
                case atStart => exact ⟨1, by omega, by omega, rfl, bB, oL6, R6⟩
                case round =>
                  clear bB oL6 R6 q0 q1
                  obtain ⟨m, hm1, hml, rfl, bb, oL, R⟩ := hrel
                  obtain ⟨u, rfl⟩ : ∃ u : World, u = wr := ⟨_, rfl⟩
                  have hmem := bestTo_mem (up := up) (l := L) (m - 1) (by omega)
                  by_cases hlt : m < L.length
                  · obtain ⟨q0, q1⟩ := oL.cells hlt
                    have HSU : Hid (bestTo up L m = if betP up (nP L m) (bestTo up L (m - 1)) then nP L m else bestTo up L (m - 1)) := Lib.hid (by
                      obtain ⟨n, rfl⟩ : ∃ n, m = n + 1 := ⟨m - 1, by omega⟩
                      rfl)
                    have bm := hbd _ (nP_mem hlt)
                    have bg := hbd _ hmem
                    rw [nP_pair] at bm
                    simp only at bm
                    generalize bestTo up L (m - 1) = b at *
                    obtain ⟨b1, b2⟩ := b
                    simp only at bb bg
                    have l1 : (m : Int) < (L.length : Int) := by omega
                    have l2 : (0 : Int) ≤ (m : Int) := by omega
                    cases hf : frP (nP L m)
                    · have HALL : Hid (L.all frP = false) := Lib.hid (by rw [List.all_eq_false]; exact ⟨_, nP_mem hlt, by rw [hf]; simp⟩)
                      have C := l2Frac_c (pT L m) (pB L m) bm.1 bm.2 u
                      rw [show fracB (pT L m) (pB L m) = false from hf] at C
                      clear hf
                      go_wp2_with fail
                      refine C.mono ?_
                      rintro e w7 ⟨rfl, b7⟩
                      clear C q0 q1
                      go_wp2_with fail
                      go_meet
                      exact ⟨b1, b2, bb.below b7, (fun ha => by rw [HALL.out] at ha; cases ha), oL.below b7, R.below b7⟩
                    · have HF := Lib.hid hf
                      have C := l2Frac_c (pT L m) (pB L m) bm.1 bm.2 u
                      rw [show fracB (pT L m) (pB L m) = true from hf] at C
                      clear hf
                      go_wp2_with fail
                      refine C.mono ?_
                      rintro e w7 ⟨rfl, b7⟩
                      clear C q0 q1
                      have bb7 := bb.below b7
                      have oL7 := oL.below b7
                      have R7 := R.below b7
                      obtain ⟨f0, f1, z0, z1, fz⟩ := id bb7
                      cases hg : frP (b1, b2)
                      · have HALL : Hid (L.all frP = false) := Lib.hid (by rw [List.all_eq_false]; exact ⟨_, hmem, by rw [hg]; simp⟩)
                        have C := l2Frac_c b1 b2 bg.1 bg.2 w7
                        rw [show fracB b1 b2 = false from hg] at C
                        clear hg
                        go_wp2_with fail
                        refine C.mono ?_
                        rintro e w8 ⟨rfl, b8⟩
                        clear C f0 f1 z0 z1
                        go_wp2_with fail
                        go_meet
                        exact ⟨b1, b2, bb7.below b8, (fun ha => by rw [HALL.out] at ha; cases ha), oL7.below b8, R7.below b8⟩
                      · have HG := Lib.hid hg
                        have C := l2Frac_c b1 b2 bg.1 bg.2 w7
                        rw [show fracB b1 b2 = true from hg] at C
                        clear hg
                        go_wp2_with fail
                        refine C.mono ?_
                        rintro e w8 ⟨rfl, b8⟩
                        clear C f0 f1 z0 z1 fz
                        have bb8 := bb7.below b8
                        have oL8 := oL7.below b8
                        have R8 := R7.below b8
                        clear bb7 oL7 R7 b7 b8 bb oL R
                        go_upto_region 16 with fail
                        have hS0 : (w8.drew.cell? ⟨gL, m * 2, none⟩ = some (.int .i64 (pT L m)) ∧ w8.drew.cell? ⟨gL, m * 2 + 1, none⟩ = some (.int .i64 (pB L m))) ∧ w8.drew.cell? ⟨w5.heap.size, 0, none⟩ = some (.int .i64 b1) ∧ w8.drew.cell? ⟨w5.heap.size, 1, none⟩ = some (.int .i64 b2) := ⟨oL8.cells hlt, bb8.1, bb8.2.1⟩
                        have hd : Below w8.heap.size w8 w8.drew := Below.drew (Below.refl _ _)
                        refine tamed_region (S := fun w' => (w'.cell? ⟨gL, m * 2, none⟩ = some (.int .i64 (pT L m)) ∧ w'.cell? ⟨gL, m * 2 + 1, none⟩ = some (.int .i64 (pB L m))) ∧ w'.cell? ⟨w5.heap.size, 0, none⟩ = some (.int .i64 b1) ∧ w'.cell? ⟨w5.heap.size, 1, none⟩ = some (.int .i64 b2)) (fun _ => false) (by kernel_rfl) ?_
                        refine tame0 (k := 0) ?_ rfl (by kernel_rfl) (by kernel_rfl) (by kernel_rfl) (fun _ _ _ h => h) (by kernel_rfl) (fun v => ?_) ?_
                        rotate_left
                        · (go_simp; all_goals rfl)
                        simp only [Act.put, List.setIfInBounds_toArray]
                        refine tame0 (k := 1) ?_ rfl (by kernel_rfl) (by kernel_rfl) (by kernel_rfl) (fun _ _ _ h => h) (by kernel_rfl) (fun v => ?_) ?_
                        rotate_left
                        · (go_simp; all_goals rfl)
                        simp only [Act.put]
                        refine tame0 (k := 2) ?_ rfl (by kernel_rfl) (by kernel_rfl) (by kernel_rfl) (fun _ _ _ h => h) (by kernel_rfl) (fun v => ?_) ?_
                        rotate_left
                        · (go_simp; all_goals rfl)
                        simp only [Act.put]
                        refine tame (k := 3) ?_ rfl (by kernel_rfl) (by kernel_rfl) (by kernel_rfl) (by kernel_rfl) (fun _ _ _ h => h) (by kernel_rfl) hS0 (fun v hv => ?_) ?_
                        rotate_left
                        · (obtain ⟨⟨k1, k2⟩, k3, k4⟩ := hv; go_simp; all_goals rfl)
                        simp only [Act.put]
                        refine tame (k := 4) ?_ rfl (by kernel_rfl) (by kernel_rfl) (by kernel_rfl) (by kernel_rfl) (fun _ _ _ h => h) (by kernel_rfl) hS0 (fun v hv => ?_) ?_
                        rotate_left
                        · (obtain ⟨⟨k1, k2⟩, k3, k4⟩ := hv; go_simp; all_goals rfl)
                        simp only [Act.put]
                        refine tame0 (k := 5) ?_ rfl (by kernel_rfl) (by kernel_rfl) (by kernel_rfl) (fun _ _ _ h => h) (by kernel_rfl) (fun v => ?_) ?_
                        rotate_left
                        · (go_simp; all_goals rfl)
                        simp only [Act.put]
                        clear hS0
                        have CB := fun q hq => l6Better_is (pT L m) (pB L m) b1 b2 up q hq HF.out HG.out w8.drew
                        cases hq : betP up (pT L m, pB L m) (b1, b2)
                        · refine tame_one (k := 6) (by kernel_rfl) rfl (by kernel_rfl) ?_
                          go_simp
                          refine (CB _ hq).mono ?_
                          rintro e w9 ⟨rfl, b9⟩
                          have H9 := bUp hd b9 (Nat.le_refl _)
                          have bb9 := bb8.below H9
                          have oL9 := oL8.below H9
                          have R9 := R8.below H9
                          refine ⟨by exact ⟨oL9.cells hlt, bb9.1, bb9.2.1⟩, ?_⟩
                          refine tame_end (by kernel_rfl) ?_
                          have HB : Hid (bestTo up L m = (b1, b2)) := Lib.hid (by rw [HSU.out, show betP up (nP L m) (b1, b2) = false from hq]; rfl)
                          clear CB hq
                          go_wp2_with fail
                          go_roundw
                          case rel => exact ⟨m + 1, by omega, by omega, by go_num, by rw [Nat.add_sub_cancel, HB.out]; exact bb9, oL9, R9⟩
                          case measure => simp [intOf] <;> omega
                        · refine tame_one (k := 6) (by kernel_rfl) rfl (by kernel_rfl) ?_
                          go_simp
                          refine (CB _ hq).mono ?_
                          rintro e w9 ⟨rfl, b9⟩
                          have H9 := bUp hd b9 (Nat.le_refl _)
                          have bb9 := bb8.below H9
                          have oL9 := oL8.below H9
                          have R9 := R8.below H9
                          refine ⟨by exact ⟨oL9.cells hlt, bb9.1, bb9.2.1⟩, ?_⟩
                          refine tame_end (by kernel_rfl) ?_
                          have HB : Hid (bestTo up L m = (pT L m, pB L m)) := Lib.hid (by rw [HSU.out, show betP up (nP L m) (b1, b2) = true from hq]; rfl)
                          clear CB hq
                          obtain ⟨f0, f1, z0, z1, fz⟩ := id bb9
                          obtain ⟨q0, q1⟩ := oL9.cells hlt
                          have hgl : gL < w5.heap.size := hgL2
                          have hgo := R9.lt
                          have bbS := bx_put bb9 (.int .i64 (pT L m)) (.int .i64 (pB L m))
                          have g9 := (grown_setCell w9 ⟨w5.heap.size, 0, none⟩ (.int .i64 (pT L m))).trans (grown_setCell (w9.setCell ⟨w5.heap.size, 0, none⟩ (.int .i64 (pT L m))) ⟨w5.heap.size, 1, none⟩ (.int .i64 (pB L m)))
                          have oLS := oL9.grown g9 (.inr (by simp [blk]; omega))
                          have RS := R9.other g9 HGO.out
                          go_wp2_with fail
                          go_roundw
                          case rel => exact ⟨m + 1, by omega, by omega, by go_num, by rw [Nat.add_sub_cancel, HB.out]; exact bbS, oLS, RS⟩
                          case measure => simp [intOf] <;> omega
                  · have hmL : m = L.length := by omega
                    subst hmL
                    go_wp2_with fail
                    go_meet
                    exact ⟨_, _, bb, fun _ => rfl, oL, R⟩
              case rest =>
                obtain ⟨b1, b2, bb, htop, oL, R⟩ := hcut
                have HT := Lib.hid htop
                clear htop bB oL6 R6 q0 q1
                go_wp2_with fail
                go_loopw [15] (fun i wr => ∃ m : Nat, m ≤ L.length ∧ i = .int .i64 (m : Int) ∧ (∀ j, j < m → frP (nP L j) = true) ∧ Bx wr w5.heap.size (.int .i64 b1) (.int .i64 b2) ∧ OwnP wr v.heap.size (some ⟨gL, 0, none⟩) cL L ∧ PrR w wr go P.length out (.slice A1 P.length c1) (.slice (some a2) W.length c2) (.slice A3 F.length c3)) (fun i _ => L.length - (intOf i).toNat)
                case atStart => exact ⟨0, by omega, rfl, (fun j hj => by omega), bb, oL, R⟩
                case round =>
                  clear bb oL R
                  obtain ⟨m, hml, rfl, hall, bb, oL, R⟩ := hrel
                  obtain ⟨u, rfl⟩ : ∃ u : World, u = wr := ⟨_, rfl⟩
                  have HA := Lib.hid hall
                  clear hall
                  by_cases hlt : m < L.length
                  · obtain ⟨q0, q1⟩ := oL.cells hlt
                    have bm := hbd _ (nP_mem hlt)
                    rw [nP_pair] at bm
                    simp only at bm
                    have l1 : (m : Int) < (L.length : Int) := by omega
                    have l2 : (0 : Int) ≤ (m : Int) := by omega
                    cases hf : frP (nP L m)
                    · have HALL : Hid (L.all frP = false) := Lib.hid (by rw [List.all_eq_false]; exact ⟨_, nP_mem hlt, by rw [hf]; simp⟩)
                      have HO := Lib.hid (HNO.out HALL.out)
                      have C := l2Frac_c (pT L m) (pB L m) bm.1 bm.2 u
                      rw [show fracB (pT L m) (pB L m) = false from hf] at C
                      clear hf
                      go_wp2_with fail
                      refine C.mono ?_
                      rintro e w7 ⟨rfl, b7⟩
                      clear C q0 q1
                      have R7 := R.below b7
                      have hz7 := R7.lt
                      go_wp2_with fail
                      go_ret2
                      exact ⟨_, _, by rw [HO.out.1, HO.out.2] <;> rfl, by rw [HO.out.1]; exact (OwnP.lit w7 [] (by simp)).mono (by omega), R7.hb.alloc R7.hb.size _⟩
                    · have HN : Hid (∀ j, j < m + 1 → frP (nP L j) = true) := Lib.hid fun j hj => by
                        rcases Nat.eq_or_lt_of_le (Nat.lt_succ_iff.1 hj) with rfl | h'
                        · exact hf
                        · exact HA.out j h'
                      have C := l2Frac_c (pT L m) (pB L m) bm.1 bm.2 u
                      rw [show fracB (pT L m) (pB L m) = true from hf] at C
                      clear hf
                      go_wp2_with fail
                      refine C.mono ?_
                      rintro e w7 ⟨rfl, b7⟩
                      clear C q0 q1
                      go_wp2_with fail
                      go_roundw
                      case rel => exact ⟨m + 1, hlt, by go_num, HN.out, bb.below b7, oL.below b7, R.below b7⟩
                      case measure => simp [intOf] <;> omega
                  · have hmL : m = L.length := by omega
                    subst hmL
                    have HALL : Hid (L.all frP = true) := Lib.hid (by
                      rw [List.all_eq_true]
                      intro f hf
                      obtain ⟨j, hj, rfl⟩ := List.mem_iff_getElem.1 hf
                      have := HA.out j hj
                      simpa [nP, hj] using this)
                    have HTT := Lib.hid (HT.out HALL.out)
                    have HYY := Lib.hid (HY.out HALL.out)
                    obtain ⟨f0, f1, z0, z1, fz⟩ := id bb
                    have HOL := Lib.hid hiv.len
                    obtain ⟨u0, u1, qu0, qu1⟩ := R.o.some2 (k := x) (by rw [HOL.out]; exact hx)
                    have zo0 := R.o.frozen (x * 2)
                    have zo1 := R.o.frozen (x * 2 + 1)
                    have RS := R.set b1 b2 (k := x) (by rw [HOL.out]; exact hx)
                    go_wp2_with fail
                    go_roundw
                    case rel => exact ⟨x, (x : Int) - 1, out.set x (topOf up L), by omega, by omega, by go_num, HYY.out.1, HYY.out.2, by rw [← HTT.out]; exact RS⟩
                    case measure => simp [intOf] <;> omega
            · have hw : 0 < nth W x := (hk.tree.end_iff hx).1 he
              have hs2 : stepX up P F x out = some out := step_end he
              have HN := Lib.hid (show stL up P F C (P.length - x) = some out by rw [HST.out, hs2])
              have hiv2 := inv_step hiv hx (hk.un x hx) hs2
              clear hs2 he
              go_wp2_with fail
              go_roundw
              case rel => exact ⟨x, (x : Int) - 1, out, by omega, by omega, by go_num, HN.out, hiv2, R⟩
              case measure => simp [intOf] <;> omega
end Go.Proofs.Ytnhclpajfejnoaa
