/- The cursor that the laws' draws read: its steps, for all bytes. (Written by gen_cur.py.) -/
import Derived.Test.YtnhclpajfejnoaaLaws
import Derived.Test.YtnhclpajfejnoaaHol
import Derived.Test.YtnhclpajfejnoaaButA
import Derived.WalkLawsBesides
import Derived.Deep.DeepCutAuto
namespace Go.Proofs.Ytnhclpajfejnoaa
open Go.RowKit

def u8s (bs : List Int) : List Value := bs.map (Value.int .u8)
/-- A cursor in block g; it has gone N steps at most. -/
structure CurAt (w : World) (g : Nat) (N : Int) (Ac : Option Addr) (bs : List Int) (cc : Nat) (p s : Int) : Prop where
  c0 : w.cell? ⟨g, 0, none⟩ = some (.slice Ac bs.length cc)
  c1 : w.cell? ⟨g, 1, none⟩ = some (.int .i64 p)
  c2 : w.cell? ⟨g, 2, none⟩ = some (.int .u64 s)
  rd : Rd w Ac (u8s bs)
  ne : bs = [] ∨ ∀ ad, Ac = some ad → ad.block < g
  by_ : ∀ k, 0 ≤ nth bs k ∧ nth bs k ≤ 255
  p0 : 0 ≤ p
  pN : p ≤ N
  bl : bs.length ≤ 1000000
  fz : ∀ j, w.frozen? ⟨g, j, none⟩ = false
  lt : g < w.heap.size
def CurS (w : World) (g : Nat) (N : Int) : Prop := ∃ Ac bs cc p s, CurAt w g N Ac bs cc p s
section
variable {w w' : World} {g cc : Nat} {N : Int} {Ac : Option Addr} {bs : List Int} {p s : Int}
theorem CurAt.grown {row : Option Nat} (h : CurAt w g N Ac bs cc p s) (hg : w.grownBy w' row) (hr : ∀ b, row = some b → g < b) : CurAt w' g N Ac bs cc p s := by
  have hb := hg.block g h.lt (fun e => by have := hr g e.symm; omega)
  exact ⟨(World.cell?_of_block (a := ⟨g, 0, none⟩) hb).trans h.c0, (World.cell?_of_block (a := ⟨g, 1, none⟩) hb).trans h.c1, (World.cell?_of_block (a := ⟨g, 2, none⟩) hb).trans h.c2,
    (by
      rcases h.ne with e0 | h0
      · subst e0; exact Rd.nil _ _
      · exact h.rd.grown hg (fun ad e => fun e2 => by have := h0 ad e; have := hr _ e2.symm; omega)), h.ne, h.by_, h.p0, h.pN, h.bl, fun j => (World.frozen?_of_block (a := ⟨g, j, none⟩) hb).trans (h.fz j), Nat.lt_of_lt_of_le h.lt hg.size⟩
theorem CurS.grown {row : Option Nat} (h : CurS w g N) (hg : w.grownBy w' row) (hr : ∀ b, row = some b → g < b) : CurS w' g N := by
  obtain ⟨Ac, bs, cc, p, s, h⟩ := h
  exact ⟨Ac, bs, cc, p, s, h.grown hg hr⟩
theorem CurAt.below (h : CurAt w g N Ac bs cc p s) (hb : Below w.heap.size w w') : CurAt w' g N Ac bs cc p s :=
  h.grown (grown_of_below hb none) (by simp)
theorem CurS.below (h : CurS w g N) (hb : Below w.heap.size w w') : CurS w' g N := by
  obtain ⟨Ac, bs, cc, p, s, h⟩ := h
  exact ⟨Ac, bs, cc, p, s, h.below hb⟩
theorem CurAt.drewN (h : CurAt w g N Ac bs cc p s) (n : Nat) : CurAt (w.drewN n) g N Ac bs cc p s := ⟨h.c0, h.c1, h.c2, h.rd, h.ne, h.by_, h.p0, h.pN, h.bl, h.fz, h.lt⟩
theorem CurS.drewN (h : CurS w g N) (n : Nat) : CurS (w.drewN n) g N := by
  obtain ⟨Ac, bs, cc, p, s, h⟩ := h
  exact ⟨Ac, bs, cc, p, s, h.drewN n⟩
theorem CurS.mono {M : Int} (h : CurS w g N) (hN : N ≤ M) : CurS w g M := by
  obtain ⟨Ac, bs, cc, p, s, h⟩ := h
  exact ⟨Ac, bs, cc, p, s, h.c0, h.c1, h.c2, h.rd, h.ne, h.by_, h.p0, Int.le_trans h.pN hN, h.bl, h.fz, h.lt⟩
/-- One step further. -/
theorem CurAt.step (h : CurAt w g N Ac bs cc p s) (s' : Int) : CurAt ((w.setCell ⟨g, 1, none⟩ (.int .i64 (p + 1))).setCell ⟨g, 2, none⟩ (.int .u64 s')) g (N + 1) Ac bs cc (p + 1) s' := by
  have hg : w.grownBy ((w.setCell ⟨g, 1, none⟩ (.int .i64 (p + 1))).setCell ⟨g, 2, none⟩ (.int .u64 s')) (some g) := (grown_setCell w ⟨g, 1, none⟩ _).trans (grown_setCell _ ⟨g, 2, none⟩ _)
  obtain ⟨c0, c1, c2, rd, ne, by_, p0, pN, bl, fz, lt⟩ := h
  refine ⟨by simp [go_sem, c0], by simp [go_sem, c1], by simp [go_sem, c2], (by
    rcases ne with e0 | h0
    · subst e0; exact Rd.nil _ _
    · exact rd.grown hg (fun ad e e2 => by have := h0 ad e; injection e2 with e2; omega)), ne, by_, by omega, by omega, bl, fun j => by simp [go_sem, fz], Nat.lt_of_lt_of_le lt hg.size⟩
theorem CurAt.stepG (w : World) (g : Nat) (p s' : Int) : w.grownBy ((w.setCell ⟨g, 1, none⟩ (.int .i64 p)).setCell ⟨g, 2, none⟩ (.int .u64 s')) (some g) := (grown_setCell w ⟨g, 1, none⟩ _).trans (grown_setCell _ ⟨g, 2, none⟩ _)
end
theorem Rd.u8N {w : World} {A : Option Addr} {bs : List Int} {k : Nat} (h : Rd w A (u8s bs)) (hk : k < bs.length) : ∃ ad, A = some ad ∧ w.cell? (ad.add k) = some (.int .u8 (nth bs k)) := by
  obtain ⟨ad, e, q⟩ := h k (.int .u8 (nth bs k)) (by unfold u8s; rw [List.getElem?_map, List.getElem?_eq_getElem hk, nth_eq hk]; rfl)
  exact ⟨ad, e, q⟩
/-- What a draw's call answers: a value with P, the cursor gone on, nothing else changed. -/
def CurPost (w : World) (g : Nat) (M : Int) (P : Value → Prop) (e : Ending) (w' : World) : Prop := ∃ v, e = .returned v ∧ P v ∧ CurS w' g M ∧ w.grownBy w' (some g)
def IsByte (v : Value) : Prop := ∃ b : Int, v = .int .i64 b ∧ 0 ≤ b ∧ b ≤ 255
theorem band255 (x : Int) : ∃ r : Int, bits BinOp.and IntKind.u64 x 255 = r ∧ 0 ≤ r ∧ r ≤ 255 := by
  refine ⟨_, rfl, ?_⟩
  have h1 : (BitVec.ofInt 64 x &&& BitVec.ofInt 64 255).toNat ≤ 255 := by
    rw [BitVec.toNat_and]
    exact Nat.and_le_right
  have e : bits BinOp.and IntKind.u64 x 255 = ((BitVec.ofInt 64 x &&& BitVec.ofInt 64 255).toNat : Int) := by
    show IntKind.u64.wrap _ = _
    exact IntWalk.u64_in _ ⟨Int.natCast_nonneg _, Int.le_trans (Int.ofNat_le.2 h1) (by decide)⟩
  rw [e]
  omega
set_option maxRecDepth 20000 in
set_option maxHeartbeats 1000000 in
theorem next_c (g : Nat) (N : Int) (w : World) (h : CurS w g N) (hN : N ≤ 1000000) :
    Calls Try.prog 130 #[.pointer (some ⟨g, 0, none⟩)] w (CurPost w g (N + 1) IsByte) := by
  obtain ⟨Ac, bs, cc, p, s, hC⟩ := h
  have HC := Lib.hid hC
  have f0 := hC.c0
  have f1 := hC.c1
  have hp0 := hC.p0
  have hpN := hC.pN
  have hbl := hC.bl
  clear hC
  have hpw : IntKind.i64.wrap (p + 1) = p + 1 := IntWalk.i64_in _ (by omega)
  go_enter Try.func130, Try.ntmps130
  by_cases hlt : p < bs.length
  · obtain ⟨k, rfl⟩ : ∃ k : Nat, p = (k : Int) := ⟨p.toNat, by omega⟩
    obtain ⟨ab, rfl, hq⟩ := HC.out.rd.u8N (k := k) (by omega)
    have hb := HC.out.by_ k
    have hbw : IntKind.i64.wrap (nth bs k) = nth bs k := IntWalk.i64_in _ (by omega)
    have K1 := Lib.hid (And.intro f0 (And.intro f1 hq))
    go_upto_region 2 with fail
    have hd1 : Below w.heap.size w w.drew := Below.drew (Below.refl _ _)
    have SK1 : Hid (∀ w', Below w.heap.size w w' → w'.cell? ⟨g, 0, none⟩ = some (.slice (some ab) bs.length cc) ∧ w'.cell? ⟨g, 1, none⟩ = some (.int .i64 (k : Int))) := Lib.hid fun w' HV => ⟨(HV.cell (cell_lt f0)).trans f0, (HV.cell (cell_lt f1)).trans f1⟩
    clear f0 f1
    have hS1_0 := SK1.out _ hd1
    refine tamed_region (S := fun w' => w'.cell? ⟨g, 0, none⟩ = some (.slice (some ab) bs.length cc) ∧ w'.cell? ⟨g, 1, none⟩ = some (.int .i64 (k : Int))) (fun _ => false) (by kernel_rfl) ?_
    refine tame0 (k := 0) ?_ rfl (by kernel_rfl) (by kernel_rfl) (by kernel_rfl) (fun _ _ _ h => h) (by kernel_rfl) (fun v => ?_) ?_
    rotate_left
    · (go_simp; all_goals rfl)
    simp only [Act.put, List.setIfInBounds_toArray]
    refine tame0 (k := 1) ?_ rfl (by kernel_rfl) (by kernel_rfl) (by kernel_rfl) (fun _ _ _ h => h) (by kernel_rfl) (fun v => ?_) ?_
    rotate_left
    · (go_simp; all_goals rfl)
    simp only [Act.put]
    refine tame0 (k := 2) ?_ rfl (by kernel_rfl) (by kernel_rfl) (by kernel_rfl) (fun _ _ _ h => h) (by kernel_rfl) (fun v => ?_) ?_
    rotate_left
    · (go_simp; all_goals rfl)
    simp only [Act.put]
    refine tame (k := 3) ?_ rfl (by kernel_rfl) (by kernel_rfl) (by kernel_rfl) (by kernel_rfl) (fun _ _ _ h => h) (by kernel_rfl) hS1_0 (fun v hv => ?_) ?_
    rotate_left
    · (obtain ⟨k1, k2⟩ := hv; go_simp; all_goals rfl)
    simp only [Act.put]
    refine tame0 (k := 4) ?_ rfl (by kernel_rfl) (by kernel_rfl) (by kernel_rfl) (fun _ _ _ h => h) (by kernel_rfl) (fun v => ?_) ?_
    rotate_left
    · (go_simp; all_goals rfl)
    simp only [Act.put]
    refine tame0 (k := 5) ?_ rfl (by kernel_rfl) (by kernel_rfl) (by kernel_rfl) (fun _ _ _ h => h) (by kernel_rfl) (fun v => ?_) ?_
    rotate_left
    · (go_simp; all_goals rfl)
    simp only [Act.put]
    refine tame0 (k := 6) ?_ rfl (by kernel_rfl) (by kernel_rfl) (by kernel_rfl) (fun _ _ _ h => h) (by kernel_rfl) (fun v => ?_) ?_
    rotate_left
    · (go_simp; all_goals rfl)
    simp only [Act.put]
    refine tame (k := 7) ?_ rfl (by kernel_rfl) (by kernel_rfl) (by kernel_rfl) (by kernel_rfl) (fun _ _ _ h => h) (by kernel_rfl) hS1_0 (fun v hv => ?_) ?_
    rotate_left
    · (obtain ⟨k1, k2⟩ := hv; go_simp; all_goals rfl)
    simp only [Act.put]
    refine tame0 (k := 8) ?_ rfl (by kernel_rfl) (by kernel_rfl) (by kernel_rfl) (fun _ _ _ h => h) (by kernel_rfl) (fun v => ?_) ?_
    rotate_left
    · (go_simp; all_goals rfl)
    simp only [Act.put]
    have hS1_0v := Lib.hid hS1_0
    clear hS1_0
    refine tame_one (k := 9) (by kernel_rfl) rfl (by kernel_rfl) ?_
    go_simp
    refine ⟨by first | exact hS1_0v | exact Hid.out hS1_0v, ?_⟩
    refine tame_end (by kernel_rfl) ?_
    obtain ⟨f0, f1, hq⟩ := K1.out
    have f0 : w.drew.cell? ⟨g, 0, none⟩ = some (.slice (some ab) bs.length cc) := f0
    have f1 : w.drew.cell? ⟨g, 1, none⟩ = some (.int .i64 (k : Int)) := f1
    have hq : w.drew.cell? (ab.add k) = some (.int .u8 (nth bs k)) := hq
    have HD : Hid (CurAt w.drew.drew g N (some ab) bs cc (k : Int) s ∧ w.grownBy w.drew.drew (some g)) := Lib.hid ⟨HC.out.drewN 2, ⟨rfl, rfl, rfl, Nat.le_refl _, fun _ _ _ => rfl⟩⟩
    clear K1
    obtain ⟨v1, hv1⟩ : ∃ v1, v1 = w.drew := ⟨_, rfl⟩
    rw [← hv1] at f0 f1 hq HD ⊢
    clear hv1
    go_upto_region 3 with fail
    have hd2 : Below v1.heap.size v1 v1.drew := Below.drew (Below.refl _ _)
    have SK2 : Hid (∀ w', Below v1.heap.size v1 w' → w'.cell? ⟨g, 0, none⟩ = some (.slice (some ab) bs.length cc) ∧ w'.cell? ⟨g, 1, none⟩ = some (.int .i64 (k : Int)) ∧ w'.cell? (ab.add k) = some (.int .u8 (nth bs k))) := Lib.hid fun w' HV => ⟨(HV.cell (cell_lt f0)).trans f0, (HV.cell (cell_lt f1)).trans f1, (HV.cell (cell_lt hq)).trans hq⟩
    clear f0 f1 hq
    have hS2_0 := SK2.out _ hd2
    refine tamed_region (S := fun w' => w'.cell? ⟨g, 0, none⟩ = some (.slice (some ab) bs.length cc) ∧ w'.cell? ⟨g, 1, none⟩ = some (.int .i64 (k : Int)) ∧ w'.cell? (ab.add k) = some (.int .u8 (nth bs k))) (fun _ => false) (by kernel_rfl) ?_
    refine tame0 (k := 0) ?_ rfl (by kernel_rfl) (by kernel_rfl) (by kernel_rfl) (fun _ _ _ h => h) (by kernel_rfl) (fun v => ?_) ?_
    rotate_left
    · (go_simp; all_goals rfl)
    simp only [Act.put, List.setIfInBounds_toArray]
    refine tame0 (k := 1) ?_ rfl (by kernel_rfl) (by kernel_rfl) (by kernel_rfl) (fun _ _ _ h => h) (by kernel_rfl) (fun v => ?_) ?_
    rotate_left
    · (go_simp; all_goals rfl)
    simp only [Act.put]
    refine tame0 (k := 2) ?_ rfl (by kernel_rfl) (by kernel_rfl) (by kernel_rfl) (fun _ _ _ h => h) (by kernel_rfl) (fun v => ?_) ?_
    rotate_left
    · (go_simp; all_goals rfl)
    simp only [Act.put]
    refine tame (k := 3) ?_ rfl (by kernel_rfl) (by kernel_rfl) (by kernel_rfl) (by kernel_rfl) (fun _ _ _ h => h) (by kernel_rfl) hS2_0 (fun v hv => ?_) ?_
    rotate_left
    · (obtain ⟨k1, k2, k3⟩ := hv; go_simp; all_goals rfl)
    simp only [Act.put]
    refine tame0 (k := 4) ?_ rfl (by kernel_rfl) (by kernel_rfl) (by kernel_rfl) (fun _ _ _ h => h) (by kernel_rfl) (fun v => ?_) ?_
    rotate_left
    · (go_simp; all_goals rfl)
    simp only [Act.put]
    refine tame0 (k := 5) ?_ rfl (by kernel_rfl) (by kernel_rfl) (by kernel_rfl) (fun _ _ _ h => h) (by kernel_rfl) (fun v => ?_) ?_
    rotate_left
    · (go_simp; all_goals rfl)
    simp only [Act.put]
    refine tame0 (k := 6) ?_ rfl (by kernel_rfl) (by kernel_rfl) (by kernel_rfl) (fun _ _ _ h => h) (by kernel_rfl) (fun v => ?_) ?_
    rotate_left
    · (go_simp; all_goals rfl)
    simp only [Act.put]
    refine tame (k := 7) ?_ rfl (by kernel_rfl) (by kernel_rfl) (by kernel_rfl) (by kernel_rfl) (fun _ _ _ h => h) (by kernel_rfl) hS2_0 (fun v hv => ?_) ?_
    rotate_left
    · (obtain ⟨k1, k2, k3⟩ := hv; go_simp; all_goals rfl)
    simp only [Act.put]
    refine tame0 (k := 8) ?_ rfl (by kernel_rfl) (by kernel_rfl) (by kernel_rfl) (fun _ _ _ h => h) (by kernel_rfl) (fun v => ?_) ?_
    rotate_left
    · (go_simp; all_goals rfl)
    simp only [Act.put]
    refine tame (k := 9) ?_ rfl (by kernel_rfl) (by kernel_rfl) (by kernel_rfl) (by kernel_rfl) (fun _ _ _ h => h) (by kernel_rfl) hS2_0 (fun v hv => ?_) ?_
    rotate_left
    · (obtain ⟨k1, k2, k3⟩ := hv; go_simp; all_goals rfl)
    simp only [Act.put]
    refine tame0 (k := 10) ?_ rfl (by kernel_rfl) (by kernel_rfl) (by kernel_rfl) (fun _ _ _ h => h) (by kernel_rfl) (fun v => ?_) ?_
    rotate_left
    · (go_simp; all_goals rfl)
    simp only [Act.put]
    have hS2_0v := Lib.hid hS2_0
    clear hS2_0
    refine tame_one (k := 11) (by kernel_rfl) rfl (by kernel_rfl) ?_
    go_simp
    refine ⟨by first | exact hS2_0v | exact Hid.out hS2_0v, ?_⟩
    refine tame_end (by kernel_rfl) ?_
    have hD := HD.out
    clear HD
    generalize v1.drew = v2 at *
    obtain ⟨hD, hgr⟩ := hD
    have HE := Lib.hid hD
    have f1 := hD.c1
    have f2 := hD.c2
    have z1 := hD.fz 1
    have z2 := hD.fz 2
    have hlw := hD.lt
    clear hD
    go_upto_region 6 with fail
    generalize IntKind.u64.wrap (IntKind.u64.wrap (IntKind.u64.wrap (s * 6364136223846793005) + nth bs k) + 462197) = S at *
    have hF := HE.out.step S
    have hG := hgr.trans (CurAt.stepG v2 g ((k : Int) + 1) S)
    generalize (v2.setCell ⟨g, 1, none⟩ (.int .i64 ((k : Int) + 1))).setCell ⟨g, 2, none⟩ (.int .u64 S) = v3 at *
    clear f1 f2 z1 z2 hlw HE hgr
    have f0 := hF.c0
    have f1 := hF.c1
    have HF := Lib.hid (And.intro (hF.drewN 1) hG)
    clear hF hG
    have hd3 : Below v3.heap.size v3 v3.drew := Below.drew (Below.refl _ _)
    have SK3 : Hid (∀ w', Below v3.heap.size v3 w' → w'.cell? ⟨g, 0, none⟩ = some (.slice (some ab) bs.length cc) ∧ w'.cell? ⟨g, 1, none⟩ = some (.int .i64 ((k : Int) + 1))) := Lib.hid fun w' HV => ⟨(HV.cell (cell_lt f0)).trans f0, (HV.cell (cell_lt f1)).trans f1⟩
    clear f0 f1
    have hS3_0 := SK3.out _ hd3
    refine tamed_region (S := fun w' => w'.cell? ⟨g, 0, none⟩ = some (.slice (some ab) bs.length cc) ∧ w'.cell? ⟨g, 1, none⟩ = some (.int .i64 ((k : Int) + 1))) (fun _ => false) (by kernel_rfl) ?_
    refine tame0 (k := 0) ?_ rfl (by kernel_rfl) (by kernel_rfl) (by kernel_rfl) (fun _ _ _ h => h) (by kernel_rfl) (fun v => ?_) ?_
    rotate_left
    · (go_simp; all_goals rfl)
    simp only [Act.put, List.setIfInBounds_toArray]
    refine tame0 (k := 1) ?_ rfl (by kernel_rfl) (by kernel_rfl) (by kernel_rfl) (fun _ _ _ h => h) (by kernel_rfl) (fun v => ?_) ?_
    rotate_left
    · (go_simp; all_goals rfl)
    simp only [Act.put]
    refine tame0 (k := 2) ?_ rfl (by kernel_rfl) (by kernel_rfl) (by kernel_rfl) (fun _ _ _ h => h) (by kernel_rfl) (fun v => ?_) ?_
    rotate_left
    · (go_simp; all_goals rfl)
    simp only [Act.put]
    refine tame (k := 3) ?_ rfl (by kernel_rfl) (by kernel_rfl) (by kernel_rfl) (by kernel_rfl) (fun _ _ _ h => h) (by kernel_rfl) hS3_0 (fun v hv => ?_) ?_
    rotate_left
    · (obtain ⟨k1, k2⟩ := hv; go_simp; all_goals rfl)
    simp only [Act.put]
    refine tame0 (k := 4) ?_ rfl (by kernel_rfl) (by kernel_rfl) (by kernel_rfl) (fun _ _ _ h => h) (by kernel_rfl) (fun v => ?_) ?_
    rotate_left
    · (go_simp; all_goals rfl)
    simp only [Act.put]
    refine tame0 (k := 5) ?_ rfl (by kernel_rfl) (by kernel_rfl) (by kernel_rfl) (fun _ _ _ h => h) (by kernel_rfl) (fun v => ?_) ?_
    rotate_left
    · (go_simp; all_goals rfl)
    simp only [Act.put]
    refine tame0 (k := 6) ?_ rfl (by kernel_rfl) (by kernel_rfl) (by kernel_rfl) (fun _ _ _ h => h) (by kernel_rfl) (fun v => ?_) ?_
    rotate_left
    · (go_simp; all_goals rfl)
    simp only [Act.put]
    refine tame (k := 7) ?_ rfl (by kernel_rfl) (by kernel_rfl) (by kernel_rfl) (by kernel_rfl) (fun _ _ _ h => h) (by kernel_rfl) hS3_0 (fun v hv => ?_) ?_
    rotate_left
    · (obtain ⟨k1, k2⟩ := hv; go_simp; all_goals rfl)
    simp only [Act.put]
    refine tame0 (k := 8) ?_ rfl (by kernel_rfl) (by kernel_rfl) (by kernel_rfl) (fun _ _ _ h => h) (by kernel_rfl) (fun v => ?_) ?_
    rotate_left
    · (go_simp; all_goals rfl)
    simp only [Act.put]
    have hS3_0v := Lib.hid hS3_0
    clear hS3_0
    refine tame_one (k := 9) (by kernel_rfl) rfl (by kernel_rfl) ?_
    go_simp
    refine ⟨by first | exact hS3_0v | exact Hid.out hS3_0v, ?_⟩
    refine tame_end (by kernel_rfl) ?_
    obtain ⟨hF, hG⟩ := HF.out
    have hF : CurAt v3.drew g (N + 1) (some ab) bs cc ((k : Int) + 1) S := hF
    have hG : w.grownBy v3.drew (some g) := ⟨hG.os, hG.tape, hG.output, hG.size, hG.block⟩
    have HP := Lib.hid (And.intro hF hG)
    have f2 := hF.c2
    clear hF hG HF
    generalize v3.drew = v4 at *
    go_wp2_with fail
    go_ret
    exact ⟨_, rfl, ⟨_, rfl, hb.1, hb.2⟩, ⟨_, _, _, _, _, HP.out.1⟩, HP.out.2⟩
  · have K1 := Lib.hid (And.intro f0 f1)
    go_upto_region 2 with fail
    have hd4 : Below w.heap.size w w.drew := Below.drew (Below.refl _ _)
    have SK4 : Hid (∀ w', Below w.heap.size w w' → w'.cell? ⟨g, 0, none⟩ = some (.slice Ac bs.length cc) ∧ w'.cell? ⟨g, 1, none⟩ = some (.int .i64 p)) := Lib.hid fun w' HV => ⟨(HV.cell (cell_lt f0)).trans f0, (HV.cell (cell_lt f1)).trans f1⟩
    clear f0 f1
    have hS4_0 := SK4.out _ hd4
    refine tamed_region (S := fun w' => w'.cell? ⟨g, 0, none⟩ = some (.slice Ac bs.length cc) ∧ w'.cell? ⟨g, 1, none⟩ = some (.int .i64 p)) (fun _ => false) (by kernel_rfl) ?_
    refine tame0 (k := 0) ?_ rfl (by kernel_rfl) (by kernel_rfl) (by kernel_rfl) (fun _ _ _ h => h) (by kernel_rfl) (fun v => ?_) ?_
    rotate_left
    · (go_simp; all_goals rfl)
    simp only [Act.put, List.setIfInBounds_toArray]
    refine tame0 (k := 1) ?_ rfl (by kernel_rfl) (by kernel_rfl) (by kernel_rfl) (fun _ _ _ h => h) (by kernel_rfl) (fun v => ?_) ?_
    rotate_left
    · (go_simp; all_goals rfl)
    simp only [Act.put]
    refine tame0 (k := 2) ?_ rfl (by kernel_rfl) (by kernel_rfl) (by kernel_rfl) (fun _ _ _ h => h) (by kernel_rfl) (fun v => ?_) ?_
    rotate_left
    · (go_simp; all_goals rfl)
    simp only [Act.put]
    refine tame (k := 3) ?_ rfl (by kernel_rfl) (by kernel_rfl) (by kernel_rfl) (by kernel_rfl) (fun _ _ _ h => h) (by kernel_rfl) hS4_0 (fun v hv => ?_) ?_
    rotate_left
    · (obtain ⟨k1, k2⟩ := hv; go_simp; all_goals rfl)
    simp only [Act.put]
    refine tame0 (k := 4) ?_ rfl (by kernel_rfl) (by kernel_rfl) (by kernel_rfl) (fun _ _ _ h => h) (by kernel_rfl) (fun v => ?_) ?_
    rotate_left
    · (go_simp; all_goals rfl)
    simp only [Act.put]
    refine tame0 (k := 5) ?_ rfl (by kernel_rfl) (by kernel_rfl) (by kernel_rfl) (fun _ _ _ h => h) (by kernel_rfl) (fun v => ?_) ?_
    rotate_left
    · (go_simp; all_goals rfl)
    simp only [Act.put]
    refine tame0 (k := 6) ?_ rfl (by kernel_rfl) (by kernel_rfl) (by kernel_rfl) (fun _ _ _ h => h) (by kernel_rfl) (fun v => ?_) ?_
    rotate_left
    · (go_simp; all_goals rfl)
    simp only [Act.put]
    refine tame (k := 7) ?_ rfl (by kernel_rfl) (by kernel_rfl) (by kernel_rfl) (by kernel_rfl) (fun _ _ _ h => h) (by kernel_rfl) hS4_0 (fun v hv => ?_) ?_
    rotate_left
    · (obtain ⟨k1, k2⟩ := hv; go_simp; all_goals rfl)
    simp only [Act.put]
    refine tame0 (k := 8) ?_ rfl (by kernel_rfl) (by kernel_rfl) (by kernel_rfl) (fun _ _ _ h => h) (by kernel_rfl) (fun v => ?_) ?_
    rotate_left
    · (go_simp; all_goals rfl)
    simp only [Act.put]
    have hS4_0v := Lib.hid hS4_0
    clear hS4_0
    refine tame_one (k := 9) (by kernel_rfl) rfl (by kernel_rfl) ?_
    go_simp
    refine ⟨by first | exact hS4_0v | exact Hid.out hS4_0v, ?_⟩
    refine tame_end (by kernel_rfl) ?_
    have hD : CurAt w.drew g N Ac bs cc p s ∧ w.grownBy w.drew (some g) := ⟨HC.out.drewN 1, ⟨rfl, rfl, rfl, Nat.le_refl _, fun _ _ _ => rfl⟩⟩
    clear K1 HC
    generalize w.drew = v2 at *
    obtain ⟨hD, hgr⟩ := hD
    have HE := Lib.hid hD
    have f1 := hD.c1
    have f2 := hD.c2
    have z1 := hD.fz 1
    have z2 := hD.fz 2
    have hlw := hD.lt
    clear hD
    go_upto_region 6 with fail
    generalize IntKind.u64.wrap (IntKind.u64.wrap (IntKind.u64.wrap (s * 6364136223846793005)) + 462197) = S at *
    have hF := HE.out.step S
    have hG := hgr.trans (CurAt.stepG v2 g (p + 1) S)
    generalize (v2.setCell ⟨g, 1, none⟩ (.int .i64 (p + 1))).setCell ⟨g, 2, none⟩ (.int .u64 S) = v3 at *
    clear f1 f2 z1 z2 hlw HE hgr
    have f0 := hF.c0
    have f1 := hF.c1
    have HF := Lib.hid (And.intro (hF.drewN 1) hG)
    clear hF hG
    have hd5 : Below v3.heap.size v3 v3.drew := Below.drew (Below.refl _ _)
    have SK5 : Hid (∀ w', Below v3.heap.size v3 w' → w'.cell? ⟨g, 0, none⟩ = some (.slice Ac bs.length cc) ∧ w'.cell? ⟨g, 1, none⟩ = some (.int .i64 (p + 1))) := Lib.hid fun w' HV => ⟨(HV.cell (cell_lt f0)).trans f0, (HV.cell (cell_lt f1)).trans f1⟩
    clear f0 f1
    have hS5_0 := SK5.out _ hd5
    refine tamed_region (S := fun w' => w'.cell? ⟨g, 0, none⟩ = some (.slice Ac bs.length cc) ∧ w'.cell? ⟨g, 1, none⟩ = some (.int .i64 (p + 1))) (fun _ => false) (by kernel_rfl) ?_
    refine tame0 (k := 0) ?_ rfl (by kernel_rfl) (by kernel_rfl) (by kernel_rfl) (fun _ _ _ h => h) (by kernel_rfl) (fun v => ?_) ?_
    rotate_left
    · (go_simp; all_goals rfl)
    simp only [Act.put, List.setIfInBounds_toArray]
    refine tame0 (k := 1) ?_ rfl (by kernel_rfl) (by kernel_rfl) (by kernel_rfl) (fun _ _ _ h => h) (by kernel_rfl) (fun v => ?_) ?_
    rotate_left
    · (go_simp; all_goals rfl)
    simp only [Act.put]
    refine tame0 (k := 2) ?_ rfl (by kernel_rfl) (by kernel_rfl) (by kernel_rfl) (fun _ _ _ h => h) (by kernel_rfl) (fun v => ?_) ?_
    rotate_left
    · (go_simp; all_goals rfl)
    simp only [Act.put]
    refine tame (k := 3) ?_ rfl (by kernel_rfl) (by kernel_rfl) (by kernel_rfl) (by kernel_rfl) (fun _ _ _ h => h) (by kernel_rfl) hS5_0 (fun v hv => ?_) ?_
    rotate_left
    · (obtain ⟨k1, k2⟩ := hv; go_simp; all_goals rfl)
    simp only [Act.put]
    refine tame0 (k := 4) ?_ rfl (by kernel_rfl) (by kernel_rfl) (by kernel_rfl) (fun _ _ _ h => h) (by kernel_rfl) (fun v => ?_) ?_
    rotate_left
    · (go_simp; all_goals rfl)
    simp only [Act.put]
    refine tame0 (k := 5) ?_ rfl (by kernel_rfl) (by kernel_rfl) (by kernel_rfl) (fun _ _ _ h => h) (by kernel_rfl) (fun v => ?_) ?_
    rotate_left
    · (go_simp; all_goals rfl)
    simp only [Act.put]
    refine tame0 (k := 6) ?_ rfl (by kernel_rfl) (by kernel_rfl) (by kernel_rfl) (fun _ _ _ h => h) (by kernel_rfl) (fun v => ?_) ?_
    rotate_left
    · (go_simp; all_goals rfl)
    simp only [Act.put]
    refine tame (k := 7) ?_ rfl (by kernel_rfl) (by kernel_rfl) (by kernel_rfl) (by kernel_rfl) (fun _ _ _ h => h) (by kernel_rfl) hS5_0 (fun v hv => ?_) ?_
    rotate_left
    · (obtain ⟨k1, k2⟩ := hv; go_simp; all_goals rfl)
    simp only [Act.put]
    refine tame0 (k := 8) ?_ rfl (by kernel_rfl) (by kernel_rfl) (by kernel_rfl) (fun _ _ _ h => h) (by kernel_rfl) (fun v => ?_) ?_
    rotate_left
    · (go_simp; all_goals rfl)
    simp only [Act.put]
    have hS5_0v := Lib.hid hS5_0
    clear hS5_0
    refine tame_one (k := 9) (by kernel_rfl) rfl (by kernel_rfl) ?_
    go_simp
    refine ⟨by first | exact hS5_0v | exact Hid.out hS5_0v, ?_⟩
    refine tame_end (by kernel_rfl) ?_
    obtain ⟨hF, hG⟩ := HF.out
    have hF : CurAt v3.drew g (N + 1) Ac bs cc (p + 1) S := hF
    have hG : w.grownBy v3.drew (some g) := ⟨hG.os, hG.tape, hG.output, hG.size, hG.block⟩
    have HP := Lib.hid (And.intro hF hG)
    have f2 := hF.c2
    clear hF hG HF
    generalize v3.drew = v4 at *
    obtain ⟨r, hr, hr0, hr1⟩ := band255 (S / 1099511627776)
    have hrw : IntKind.i64.wrap r = r := IntWalk.i64_in _ (by omega)
    go_wp2_with fail
    go_ret
    exact ⟨_, rfl, ⟨_, rfl, hr0, hr1⟩, ⟨_, _, _, _, _, HP.out.1⟩, HP.out.2⟩
theorem grown_refl (w : World) (row : Option Nat) : w.grownBy w row := ⟨rfl, rfl, rfl, Nat.le_refl _, fun _ _ _ => rfl⟩
/-- A number from 0 to n - 1, or 0. -/
def IsPick (n : Int) (v : Value) : Prop := ∃ x : Int, v = .int .i64 x ∧ 0 ≤ x ∧ (x = 0 ∨ x < n)
def IsBool (v : Value) : Prop := ∃ b : Bool, v = .bool b
def IsOf (xs : List Int) (v : Value) : Prop := ∃ k, k < xs.length ∧ v = .int .i64 (nth xs k)
set_option maxRecDepth 20000 in
set_option maxHeartbeats 1000000 in
theorem pick_c (g : Nat) (N n : Int) (w : World) (h : CurS w g N) (hN : N ≤ 999998) (hn : n ≤ 1000000) :
    Calls Try.prog 81 #[.pointer (some ⟨g, 0, none⟩), .int .i64 n] w (CurPost w g (N + 2) (IsPick n)) := by
  by_cases h1 : n ≤ 1
  · go_enter Try.func81, Try.ntmps81
    go_wp2
    go_ret
    exact ⟨_, rfl, ⟨0, rfl, by omega, .inl rfl⟩, h.mono (by omega), grown_refl _ _⟩
  · go_enter Try.func81, Try.ntmps81
    go_wp2_with fail
    refine (next_c g N w h (by omega)).mono ?_
    rintro e w2 ⟨v, rfl, ⟨b, rfl, hb0, hb1⟩, hc, hg⟩
    by_cases h2 : 200 < n
    · go_wp2_with fail
      refine (next_c g (N + 1) w2 hc (by omega)).mono ?_
      rintro e w3 ⟨v, rfl, ⟨y, rfl, hy0, hy1⟩, hc3, hg3⟩
      have e1 : IntKind.i64.wrap (b * 256) = b * 256 := IntWalk.i64_in _ (by omega)
      have hm0 := Int.emod_nonneg (b * 256 + y) (show n ≠ 0 by omega)
      have hm1 := Int.emod_lt_of_pos (b * 256 + y) (show 0 < n by omega)
      go_wp2_with fail
      go_ret
      exact ⟨_, rfl, ⟨_, rfl, hm0, .inr hm1⟩, hc3.mono (by omega), hg.trans hg3⟩
    · have hm0 := Int.emod_nonneg b (show n ≠ 0 by omega)
      have hm1 := Int.emod_lt_of_pos b (show 0 < n by omega)
      go_wp2_with fail
      go_ret
      exact ⟨_, rfl, ⟨_, rfl, hm0, .inr hm1⟩, hc.mono (by omega), hg⟩
set_option maxRecDepth 20000 in
set_option maxHeartbeats 1000000 in
theorem one_c (g : Nat) (N n : Int) (w : World) (h : CurS w g N) (hN : N ≤ 999998) (hn : n ≤ 1000000) :
    Calls Try.prog 82 #[.pointer (some ⟨g, 0, none⟩), .int .i64 n] w (CurPost w g (N + 2) IsBool) := by
  go_enter Try.func82, Try.ntmps82
  go_wp2_with fail
  refine (pick_c g N n w h hN hn).mono ?_
  rintro e w2 ⟨v, rfl, ⟨x, rfl, hx0, hx1⟩, hc, hg⟩
  go_wp2_with fail
  go_ret
  exact ⟨_, rfl, ⟨_, rfl⟩, hc, hg⟩
set_option maxRecDepth 20000 in
set_option maxHeartbeats 1000000 in
theorem among_c (g : Nat) (N : Int) (A : Option Addr) (xs : List Int) (m c : Nat) (w : World) (h : CurS w g N) (hN : N ≤ 999998) (hr : Rd w A (ints xs)) (hA : ∀ ad, A = some ad → ad.block ≠ g) (hm : m = xs.length) (h1 : 1 ≤ xs.length) (h2 : xs.length ≤ 100) :
    Calls Try.prog 60 #[.pointer (some ⟨g, 0, none⟩), .slice A m c] w (CurPost w g (N + 2) (IsOf xs)) := by
  subst hm
  go_enter Try.func60, Try.ntmps60
  go_wp2_with fail
  refine (pick_c g N (xs.length : Int) w h hN (by omega)).mono ?_
  rintro e w2 ⟨v, rfl, ⟨x, rfl, hx0, hx1⟩, hc, hg⟩
  obtain ⟨k, rfl⟩ : ∃ k : Nat, x = (k : Int) := ⟨x.toNat, by omega⟩
  have hk : k < xs.length := by omega
  obtain ⟨ad, rfl, hq⟩ := (hr.grown hg (fun ad e e2 => hA ad e (by injection e2))).intN hk
  have i1 : (k : Int) < (xs.length : Int) := by omega
  go_wp2_with fail
  go_ret
  exact ⟨_, rfl, ⟨k, hk, rfl⟩, hc, hg⟩
/-- A cursor at its start. -/
theorem CurS.new (w : World) (Ac : Option Addr) (bs : List Int) (cc : Nat) (T : TypeId) (hr : Rd w Ac (u8s bs)) (hb : ∀ k, 0 ≤ nth bs k ∧ nth bs k ≤ 255) (hl : bs.length ≤ 1000000) : CurS (w.alloc (.cells #[.slice Ac bs.length cc, .int .i64 0, .int .u64 0] T)) w.heap.size 0 :=
  ⟨Ac, bs, cc, 0, 0, by simp, by simp, by simp, hr.alloc _, by
    rcases bs with _ | ⟨b, bs⟩
    · exact .inl rfl
    · right
      intro ad e
      obtain ⟨ad', e', q⟩ := hr.u8N (k := 0) (by simp)
      rw [e] at e'
      injection e' with e'
      subst e'
      have := cell_lt q
      rwa [block_of_add] at this, hb, Int.le_refl _, Int.le_refl _, hl, fun j => by simp [go_sem], by simp⟩
end Go.Proofs.Ytnhclpajfejnoaa
