/- Structs of three lists, a tree and one more (Arm): the laws' own helpers on them: sizes, a copy, a comparison, marks. -/
import Derived.Test.YthhpioohdkglkaaHol
namespace Go.Proofs.Ythhpioohdkglkaa
open Go.RowKit

@[reducible] def trV (A1 : Option Addr) (n1 c1 : Nat) (A2 : Option Addr) (n2 c2 : Nat) : Value := .agg #[.slice A1 n1 c1, .slice A2 n2 c2]
@[reducible] def mkV (A1 : Option Addr) (n1 c1 : Nat) (A2 : Option Addr) (n2 c2 : Nat) (A3 : Option Addr) (n3 c3 : Nat) : Value := .agg #[.slice A1 n1 c1, .slice A2 n2 c2, .slice A3 n3 c3]
/-- Rows of the call's own, one behind the other. -/
structure OwnT (w : World) (B g1 g2 : Nat) (P W : List Int) : Prop where
  o1 : Own w B (some ⟨g1, 0, none⟩) P.length P
  o2 : Own w B (some ⟨g2, 0, none⟩) W.length W
  l1 : g1 < g2
structure OwnM (w : World) (B g1 g2 g3 : Nat) (P W F : List Int) : Prop where
  o1 : Own w B (some ⟨g1, 0, none⟩) P.length P
  o2 : Own w B (some ⟨g2, 0, none⟩) W.length W
  o3 : Own w B (some ⟨g3, 0, none⟩) F.length F
  l1 : g1 < g2
  l2 : g2 < g3
section
variable {w w' : World} {B g1 g2 g3 : Nat} {P W F : List Int}
theorem OwnT.below (h : OwnT w B g1 g2 P W) (hb : Below w.heap.size w w') : OwnT w' B g1 g2 P W := ⟨h.o1.below hb, h.o2.below hb, h.l1⟩
theorem OwnM.below (h : OwnM w B g1 g2 g3 P W F) (hb : Below w.heap.size w w') : OwnM w' B g1 g2 g3 P W F := ⟨h.o1.below hb, h.o2.below hb, h.o3.below hb, h.l1, h.l2⟩
theorem OwnM.drewN (h : OwnM w B g1 g2 g3 P W F) (n : Nat) : OwnM (w.drewN n) B g1 g2 g3 P W F := ⟨h.o1, h.o2, h.o3, h.l1, h.l2⟩
theorem OwnM.drew (h : OwnM w B g1 g2 g3 P W F) : OwnM w.drew B g1 g2 g3 P W F := ⟨h.o1, h.o2, h.o3, h.l1, h.l2⟩
theorem OwnM.alloc (h : OwnM w B g1 g2 g3 P W F) (o : Obj) : OwnM (w.alloc o) B g1 g2 g3 P W F := ⟨h.o1.alloc o, h.o2.alloc o, h.o3.alloc o, h.l1, h.l2⟩
theorem OwnM.mono {B' : Nat} (h : OwnM w B g1 g2 g3 P W F) (hB : B' ≤ B) : OwnM w B' g1 g2 g3 P W F := ⟨h.o1.mono hB, h.o2.mono hB, h.o3.mono hB, h.l1, h.l2⟩
theorem OwnM.lo (h : OwnM w B g1 g2 g3 P W F) : B ≤ g1 := (h.o1.lt _ rfl).1
theorem OwnM.hi (h : OwnM w B g1 g2 g3 P W F) : g3 < w.heap.size := (h.o3.lt _ rfl).2
theorem OwnM.holed {lo hi : Nat} (h : OwnM w B g1 g2 g3 P W F) (hh : Holed lo hi w w') (hB : hi ≤ B) : OwnM w' B g1 g2 g3 P W F := ⟨h.o1.holed hh hB, h.o2.holed hh hB, h.o3.holed hh hB, h.l1, h.l2⟩
theorem OwnM.holedLow {lo hi : Nat} (h : OwnM w B g1 g2 g3 P W F) (hh : Holed lo hi w w') (hB : g3 < lo) : OwnM w' B g1 g2 g3 P W F := by
  have := h.l1
  have := h.l2
  exact ⟨h.o1.holedLow hh (fun k hk => by simp [blk] at hk; omega), h.o2.holedLow hh (fun k hk => by simp [blk] at hk; omega), h.o3.holedLow hh (fun k hk => by simp [blk] at hk; omega), h.l1, h.l2⟩
theorem OwnM.grown {g : Nat} (h : OwnM w B g1 g2 g3 P W F) (hg : w.grownBy w' (some g)) (h1 : g < g1 ∨ g3 < g) : OwnM w' B g1 g2 g3 P W F := by
  have := h.l1
  have := h.l2
  exact ⟨h.o1.grown hg (.inr (by simp [blk]; omega)), h.o2.grown hg (.inr (by simp [blk]; omega)), h.o3.grown hg (.inr (by simp [blk]; omega)), h.l1, h.l2⟩
end
/-- The three lists of such a struct are read here. -/
structure RdM (w : World) (A1 : Option Addr) (P : List Int) (A2 : Option Addr) (W : List Int) (A3 : Option Addr) (F : List Int) : Prop where
  r1 : Rd w A1 (ints P)
  r2 : Rd w A2 (ints W)
  r3 : Rd w A3 (ints F)
  l1 : P.length ≤ 16777216
  l2 : W.length ≤ 16777216
  l3 : F.length ≤ 16777216
theorem RdM.below {w w' : World} {A1 A2 A3 : Option Addr} {P W F : List Int} (h : RdM w A1 P A2 W A3 F) {B : Nat} (hb : Below B w w') (hB : w.heap.size ≤ B) : RdM w' A1 P A2 W A3 F :=
  ⟨h.r1.below hb hB, h.r2.below hb hB, h.r3.below hb hB, h.l1, h.l2, h.l3⟩
theorem RdM.drewN {w : World} {A1 A2 A3 : Option Addr} {P W F : List Int} (h : RdM w A1 P A2 W A3 F) (n : Nat) : RdM (w.drewN n) A1 P A2 W A3 F := ⟨h.r1, h.r2, h.r3, h.l1, h.l2, h.l3⟩
/-- A box of three cells of the call's own. -/
def Bx3 (W : World) (g : Nat) (x y z : Value) : Prop :=
  W.cell? ⟨g, 0, none⟩ = some x ∧ W.cell? ⟨g, 1, none⟩ = some y ∧ W.cell? ⟨g, 2, none⟩ = some z ∧ g < W.heap.size
theorem Bx3.new (w : World) (x y z : Value) (t : TypeId) : Bx3 (w.alloc (.cells #[x, y, z] t)) w.heap.size x y z := ⟨by simp, by simp, by simp, by simp⟩
theorem Bx3.below {W W' : World} {g : Nat} {x y z : Value} (h : Bx3 W g x y z) (hb : Below W.heap.size W W') : Bx3 W' g x y z :=
  ⟨(hb.cell (p := ⟨g, 0, none⟩) h.2.2.2).trans h.1, (hb.cell (p := ⟨g, 1, none⟩) h.2.2.2).trans h.2.1, (hb.cell (p := ⟨g, 2, none⟩) h.2.2.2).trans h.2.2.1, Nat.lt_of_lt_of_le h.2.2.2 hb.size⟩
theorem Bx3.drewN {W : World} {g : Nat} {x y z : Value} (h : Bx3 W g x y z) (n : Nat) : Bx3 (W.drewN n) g x y z := h
theorem Bx3.alloc {W : World} {g : Nat} {x y z : Value} (h : Bx3 W g x y z) (o : Obj) : Bx3 (W.alloc o) g x y z := h.below ((Below.refl _ _).alloc (Nat.le_refl _) o)
theorem Bx3.holedLow {W W' : World} {g lo hi : Nat} {x y z : Value} (h : Bx3 W g x y z) (hh : Holed lo hi W W') (hl : g < lo) : Bx3 W' g x y z := by
  have hg := hh.block g h.2.2.2 (.inl hl)
  exact ⟨(World.cell?_of_block (a := ⟨g, 0, none⟩) hg).trans h.1, (World.cell?_of_block (a := ⟨g, 1, none⟩) hg).trans h.2.1, (World.cell?_of_block (a := ⟨g, 2, none⟩) hg).trans h.2.2.1, Nat.lt_of_lt_of_le h.2.2.2 hh.size⟩
theorem Bx3.grown {W W' : World} {g r : Nat} {x y z : Value} (h : Bx3 W g x y z) (hh : W.grownBy W' (some r)) (hl : g ≠ r) : Bx3 W' g x y z := by
  have hg := hh.block g h.2.2.2 (by simp; omega)
  exact ⟨(World.cell?_of_block (a := ⟨g, 0, none⟩) hg).trans h.1, (World.cell?_of_block (a := ⟨g, 1, none⟩) hg).trans h.2.1, (World.cell?_of_block (a := ⟨g, 2, none⟩) hg).trans h.2.2.1, Nat.lt_of_lt_of_le h.2.2.2 hh.size⟩

theorem Bx3.grownR {W W' : World} {g : Nat} {x y z : Value} {row : Option Nat} (h : Bx3 W g x y z) (hh : W.grownBy W' row) (hl : row ≠ some g) : Bx3 W' g x y z := by
  have hg := hh.block g h.2.2.2 (fun e => hl e.symm)
  exact ⟨(World.cell?_of_block (a := ⟨g, 0, none⟩) hg).trans h.1, (World.cell?_of_block (a := ⟨g, 1, none⟩) hg).trans h.2.1, (World.cell?_of_block (a := ⟨g, 2, none⟩) hg).trans h.2.2.1, Nat.lt_of_lt_of_le h.2.2.2 hh.size⟩

theorem szTree_c (A1 : Option Addr) (n1 c1 : Nat) (A2 : Option Addr) (n2 c2 : Nat) (l : Int) (w : World) (h0 : 0 ≤ l) (h1 : l ≤ 1048576) (hn1 : n1 ≤ 9223372036854775807) (hn2 : n2 ≤ 9223372036854775807) :
    Calls Try.prog 39 #[trV A1 n1 c1 A2 n2 c2, .int .i64 l] w fun e w' => (∃ r : Int, e = .returned (.int .i64 r) ∧ (r < 0 ∨ 0 ≤ r ∧ r = l - n1 - n2)) ∧ Below w.heap.size w w' := by
  have HB1 : Below w.heap.size w (w.alloc (.cells #[.slice A1 n1 c1, .slice A2 n2 c2] 33)) := (Below.refl _ _).alloc (Nat.le_refl _) _
  by_cases ha : l < (n1 : Int)
  · go_enter Try.func39, Try.ntmps39
    go_wp2_with fail
    refine (szIntS_no _ _ _ _ _ h0 h1 hn1 ha).mono ?_
    rintro e w' ⟨rfl, rfl⟩
    go_wp2
    go_ret
    exact ⟨⟨-1, rfl, .inl (by decide)⟩, HB1⟩
  · by_cases hb : l - n1 < (n2 : Int)
    · go_enter Try.func39, Try.ntmps39
      go_wp2_with fail
      refine (szIntS_yes _ _ _ _ _ h0 h1 hn1 (by omega)).mono ?_
      rintro e w' ⟨rfl, rfl⟩
      go_wp2_with fail
      refine (szIntS_no _ _ _ _ _ (by omega) (by omega) hn2 hb).mono ?_
      rintro e w' ⟨rfl, rfl⟩
      go_wp2
      go_ret
      exact ⟨⟨-1, rfl, .inl (by decide)⟩, HB1⟩
    · go_enter Try.func39, Try.ntmps39
      go_wp2_with fail
      refine (szIntS_yes _ _ _ _ _ h0 h1 hn1 (by omega)).mono ?_
      rintro e w' ⟨rfl, rfl⟩
      go_wp2_with fail
      refine (szIntS_yes _ _ _ _ _ (by omega) (by omega) hn2 (by omega)).mono ?_
      rintro e w' ⟨rfl, rfl⟩
      go_wp2
      go_ret
      exact ⟨⟨_, rfl, .inr ⟨by omega, rfl⟩⟩, HB1⟩
set_option maxRecDepth 20000 in
set_option maxHeartbeats 1000000 in
theorem szArm_c (A1 : Option Addr) (n1 c1 : Nat) (A2 : Option Addr) (n2 c2 : Nat) (A3 : Option Addr) (n3 c3 : Nat) (l : Int) (w : World) (h0 : 0 ≤ l) (h1 : l ≤ 1048576) (hn1 : n1 ≤ 9223372036854775807) (hn2 : n2 ≤ 9223372036854775807) (hn3 : n3 ≤ 9223372036854775807) :
    Calls Try.prog 21 #[mkV A1 n1 c1 A2 n2 c2 A3 n3 c3, .int .i64 l] w fun e w' => (∃ r : Int, e = .returned (.int .i64 r) ∧ (r < 0 ∨ 0 ≤ r ∧ r = l - n1 - n2 - n3)) ∧ Below w.heap.size w w' := by
  have HB1 : Below w.heap.size w (w.alloc (.cells #[.slice A1 n1 c1, .slice A2 n2 c2, .slice A3 n3 c3] 35)) := (Below.refl _ _).alloc (Nat.le_refl _) _
  have bx0 := Bx3.new w (.slice A1 n1 c1) (.slice A2 n2 c2) (.slice A3 n3 c3) 35
  go_enter Try.func21, Try.ntmps21
  go_wp2_with fail
  generalize w.alloc (.cells #[.slice A1 n1 c1, .slice A2 n2 c2, .slice A3 n3 c3] 35) = v at *
  refine (szTree_c A1 n1 c1 A2 n2 c2 l _ h0 h1 hn1 hn2).mono ?_
  rintro e w2 ⟨⟨r, rfl, hr⟩, hb2⟩
  have HB2 := bUp HB1 hb2 HB1.size
  obtain ⟨f0, f1, f2, hz⟩ := bx0.below hb2
  clear bx0 hb2 HB1
  rcases hr with hr | ⟨hr, he⟩
  · go_wp2
    go_ret
    exact ⟨⟨-1, rfl, .inl (by decide)⟩, HB2⟩
  · have HE := Lib.hid he
    have hr1 : r ≤ 1048576 := by omega
    clear he
    by_cases hb : r < (n3 : Int)
    · go_wp2_with fail
      refine (szIntS_no _ _ _ _ _ hr hr1 hn3 hb).mono ?_
      rintro e w' ⟨rfl, rfl⟩
      go_wp2
      go_ret
      exact ⟨⟨-1, rfl, .inl (by decide)⟩, HB2⟩
    · go_wp2_with fail
      refine (szIntS_yes _ _ _ _ _ hr hr1 hn3 (by omega)).mono ?_
      rintro e w' ⟨rfl, rfl⟩
      go_wp2
      go_ret
      exact ⟨⟨_, rfl, .inr ⟨by omega, by rw [HE.out]⟩⟩, HB2⟩

set_option maxRecDepth 20000 in
theorem toTree_c (A1 : Option Addr) (P : List Int) (c1 : Nat) (A2 : Option Addr) (W : List Int) (c2 : Nat) (w : World) (h1 : Rd w A1 (ints P)) (h2 : Rd w A2 (ints W)) (hl1 : P.length ≤ 16777216) (hl2 : W.length ≤ 16777216) :
    Calls Try.prog 41 #[trV A1 P.length c1 A2 W.length c2] w fun e w' => ∃ g1 g2, e = .returned (trV (some ⟨g1, 0, none⟩) P.length P.length (some ⟨g2, 0, none⟩) W.length W.length) ∧ OwnT w' w.heap.size g1 g2 P W ∧ Below w.heap.size w w' := by
  have HB1 : Below w.heap.size w (((w.alloc (.cells #[.slice A1 P.length c1, .slice A2 W.length c2] 33)).alloc (.cells #[.slice none 0 0, .slice none 0 0] 37)).alloc (.cells #[.slice none 0 0, .slice none 0 0] 37)) := by
    with_reducible repeat (first | exact Below.refl _ _ | refine Below.alloc ?_ (by simp <;> omega) _)
  have hz1 : (((w.alloc (.cells #[.slice A1 P.length c1, .slice A2 W.length c2] 33)).alloc (.cells #[.slice none 0 0, .slice none 0 0] 37)).alloc (.cells #[.slice none 0 0, .slice none 0 0] 37)).heap.size = w.heap.size + 3 := by simp
  have C := toIntS_c A1 P c1 _ (h1.below HB1 (Nat.le_refl _)) hl1
  rw [hz1] at C
  go_enter Try.func41, Try.ntmps41
  go_wp2_with fail
  refine C.mono ?_
  rintro e w4 ⟨rfl, ho, hb⟩
  have hz4 : w.heap.size + 3 < w4.heap.size := (ho.lt _ rfl).2
  rw [← hz1] at hb
  obtain ⟨hc, hf⟩ := bcell hb
  rw [hz1] at hc hf hb
  have HB4 := bUp HB1 (by rw [hz1]; exact hb) HB1.size
  clear C HB1
  go_wp2_with fail
  have HB5 : Below w.heap.size w (w4.setCell ⟨w.heap.size + 2, 0, none⟩ (.slice (some ⟨w.heap.size + 3, 0, none⟩) P.length P.length)) := HB4.setCell (by simp) _
  have ho5 := ho.setOther ⟨w.heap.size + 2, 0, none⟩ (.slice (some ⟨w.heap.size + 3, 0, none⟩) P.length P.length) (.inr (by simp [blk]))
  have hz5 : (w4.setCell ⟨w.heap.size + 2, 0, none⟩ (.slice (some ⟨w.heap.size + 3, 0, none⟩) P.length P.length)).heap.size = w4.heap.size := World.size_setCell _ _ _
  have C := toIntS_c A2 W c2 (w4.setCell ⟨w.heap.size + 2, 0, none⟩ (.slice (some ⟨w.heap.size + 3, 0, none⟩) P.length P.length)) (h2.below HB5 (Nat.le_refl _)) hl2
  refine C.mono ?_
  rintro e w6 ⟨rfl, ho6, hb6⟩
  clear C
  rw [hz5] at ho6 ⊢
  have hz6 := (ho6.lt _ rfl).2
  obtain ⟨hc6, hf6⟩ := bcell hb6
  rw [hz5] at hc6 hf6
  have o56 := ho5.below hb6
  have HB6 := bUp HB5 hb6 HB5.size
  simp only at hz6
  have k0 : w.heap.size < w4.heap.size := by omega
  have k1 : w.heap.size + 1 < w4.heap.size := by omega
  have k2 : w.heap.size + 2 < w4.heap.size := by omega
  clear hz5 hb hb6
  go_wp2_with fail
  refine bodyPost_ret (v := trV (some ⟨w.heap.size + 3, 0, none⟩) P.length P.length (some ⟨w4.heap.size, 0, none⟩) W.length W.length) (by simp [results, Try.results41, go_sem, hc, hc6, k1]) rfl ⟨_, _, rfl, ⟨?_, ?_, ?_⟩, ?_⟩
  · refine Own.mono (B := w.heap.size + 3) ?_ (by omega)
    with_reducible repeat (first | exact o56 | refine Own.setOther ?_ _ _ (.inr (by simp [blk] <;> omega)))
  · refine Own.mono (B := w4.heap.size) ?_ (by omega)
    with_reducible repeat (first | exact ho6 | refine Own.setOther ?_ _ _ (.inr (by simp [blk] <;> omega)))
  · omega
  · with_reducible repeat (first | exact HB6 | refine Below.setCell ?_ (by simp <;> omega) _)
end Go.Proofs.Ythhpioohdkglkaa
