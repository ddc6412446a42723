/- Structs of three lists (Arm), more: a copy, a comparison, marks. -/
import Derived.Test.YthhpioohdkglkaaMk
namespace Go.Proofs.Ythhpioohdkglkaa
open Go.RowKit

theorem toArm_c (A1 : Option Addr) (P : List Int) (c1 : Nat) (A2 : Option Addr) (W : List Int) (c2 : Nat) (A3 : Option Addr) (F : List Int) (c3 : Nat) (w : World) (h1 : Rd w A1 (ints P)) (h2 : Rd w A2 (ints W)) (h3 : Rd w A3 (ints F))
    (hl1 : P.length ≤ 16777216) (hl2 : W.length ≤ 16777216) (hl3 : F.length ≤ 16777216) :
    Calls Try.prog 23 #[mkV A1 P.length c1 A2 W.length c2 A3 F.length c3] w fun e w' => ∃ g1 g2 g3, e = .returned (mkV (some ⟨g1, 0, none⟩) P.length P.length (some ⟨g2, 0, none⟩) W.length W.length (some ⟨g3, 0, none⟩) F.length F.length) ∧ OwnM w' w.heap.size g1 g2 g3 P W F ∧ Below w.heap.size w w' := by
  have HB1 : Below w.heap.size w (((w.alloc (.cells #[.slice A1 P.length c1, .slice A2 W.length c2, .slice A3 F.length c3] 35)).alloc (.cells #[.slice none 0 0, .slice none 0 0, .slice none 0 0] 39)).alloc (.cells #[.slice none 0 0, .slice none 0 0, .slice none 0 0] 39)) := by
    with_reducible repeat (first | exact Below.refl _ _ | refine Below.alloc ?_ (by simp <;> omega) _)
  have hz1 : (((w.alloc (.cells #[.slice A1 P.length c1, .slice A2 W.length c2, .slice A3 F.length c3] 35)).alloc (.cells #[.slice none 0 0, .slice none 0 0, .slice none 0 0] 39)).alloc (.cells #[.slice none 0 0, .slice none 0 0, .slice none 0 0] 39)).heap.size = w.heap.size + 3 := by simp
  have C := toTree_c A1 P c1 A2 W c2 _ (h1.below HB1 (Nat.le_refl _)) (h2.below HB1 (Nat.le_refl _)) hl1 hl2
  rw [hz1] at C
  go_enter Try.func23, Try.ntmps23
  go_wp2_with fail
  refine C.mono ?_
  rintro e w4 ⟨g1, g2, rfl, ho, hb⟩
  have hz4 : g2 < w4.heap.size := (ho.o2.lt _ rfl).2
  have hz4' : w.heap.size + 3 ≤ g1 := (ho.o1.lt _ rfl).1
  have hz4'' := ho.l1
  rw [← hz1] at hb
  obtain ⟨hc, hf⟩ := bcell hb
  rw [hz1] at hc hf hb
  have HB4 := bUp HB1 (by rw [hz1]; exact hb) HB1.size
  clear C HB1
  go_wp2_with fail
  have HB5 : Below w.heap.size w ((w4.setCell ⟨w.heap.size + 2, 0, none⟩ (.slice (some ⟨g1, 0, none⟩) P.length P.length)).setCell ⟨w.heap.size + 2, 1, none⟩ (.slice (some ⟨g2, 0, none⟩) W.length W.length)) := (HB4.setCell (by simp) _).setCell (by simp) _
  have o15 := (ho.o1.setOther ⟨w.heap.size + 2, 0, none⟩ (.slice (some ⟨g1, 0, none⟩) P.length P.length) (.inr (by simp [blk]; omega))).setOther ⟨w.heap.size + 2, 1, none⟩ (.slice (some ⟨g2, 0, none⟩) W.length W.length) (.inr (by simp [blk]; omega))
  have o25 := (ho.o2.setOther ⟨w.heap.size + 2, 0, none⟩ (.slice (some ⟨g1, 0, none⟩) P.length P.length) (.inr (by simp [blk]; omega))).setOther ⟨w.heap.size + 2, 1, none⟩ (.slice (some ⟨g2, 0, none⟩) W.length W.length) (.inr (by simp [blk]; omega))
  have hz5 : ((w4.setCell ⟨w.heap.size + 2, 0, none⟩ (.slice (some ⟨g1, 0, none⟩) P.length P.length)).setCell ⟨w.heap.size + 2, 1, none⟩ (.slice (some ⟨g2, 0, none⟩) W.length W.length)).heap.size = w4.heap.size := by rw [World.size_setCell, World.size_setCell]
  have C := toIntS_c A3 F c3 _ (h3.below HB5 (Nat.le_refl _)) hl3
  refine C.mono ?_
  rintro e w6 ⟨rfl, ho6, hb6⟩
  clear C
  rw [hz5] at ho6 ⊢
  have hz6 := (ho6.lt _ rfl).2
  obtain ⟨hc6, hf6⟩ := bcell hb6
  rw [hz5] at hc6 hf6
  have o16 := o15.below hb6
  have o26 := o25.below hb6
  have HB6 := bUp HB5 hb6 HB5.size
  have k1 : w.heap.size + 2 < w4.heap.size := by omega
  have k2 : w.heap.size + 1 < w4.heap.size := by omega
  simp only at hz6
  go_wp2_with fail
  refine bodyPost_ret (v := mkV (some ⟨g1, 0, none⟩) P.length P.length (some ⟨g2, 0, none⟩) W.length W.length (some ⟨w4.heap.size, 0, none⟩) F.length F.length) (by simp [results, Try.results23, go_sem, hc, hc6, k2]) rfl ⟨_, _, _, rfl, ⟨?_, ?_, ?_, ?_, ?_⟩, ?_⟩
  · refine Own.mono (B := w.heap.size + 3) ?_ (by omega)
    with_reducible repeat (first | exact o16 | refine Own.setOther ?_ _ _ (.inr (by simp [blk] <;> omega)))
  · refine Own.mono (B := w.heap.size + 3) ?_ (by omega)
    with_reducible repeat (first | exact o26 | refine Own.setOther ?_ _ _ (.inr (by simp [blk] <;> omega)))
  · refine Own.mono (B := w4.heap.size) ?_ (by omega)
    with_reducible repeat (first | exact ho6 | refine Own.setOther ?_ _ _ (.inr (by simp [blk] <;> omega)))
  · exact hz4''
  · exact hz4
  · with_reducible repeat (first | exact HB6 | refine Below.setCell ?_ (by simp <;> omega) _)

theorem eqTree_same (A1 : Option Addr) (P : List Int) (c1 : Nat) (A2 : Option Addr) (W : List Int) (c2 : Nat) (B1 : Option Addr) (d1 : Nat) (B2 : Option Addr) (d2 : Nat) (w : World)
    (h1 : Rd w A1 (ints P)) (h2 : Rd w A2 (ints W)) (k1 : Rd w B1 (ints P)) (k2 : Rd w B2 (ints W)) (hl1 : P.length ≤ 16777216) (hl2 : W.length ≤ 16777216) :
    Calls Try.prog 49 #[trV A1 P.length c1 A2 W.length c2, trV B1 P.length d1 B2 W.length d2] w (Quietly w (.bool true)) := by
  have HB1 : Below w.heap.size w ((w.alloc (.cells #[.slice A1 P.length c1, .slice A2 W.length c2] 37)).alloc (.cells #[.slice B1 P.length d1, .slice B2 W.length d2] 37)) := ((Below.refl _ _).alloc (Nat.le_refl _) _).alloc (by simp) _
  go_enter Try.func49, Try.ntmps49
  go_wp2_with fail
  refine (eqIntS_is A1 B1 P P c1 d1 true (by simp) _ (h1.below HB1 (Nat.le_refl _)) (k1.below HB1 (Nat.le_refl _)) hl1 hl1).mono ?_
  rintro e w3 ⟨rfl, n, rfl⟩
  go_wp2_with fail
  refine (eqIntS_is A2 B2 W W c2 d2 true (by simp) _ ((h2.below HB1 (Nat.le_refl _)).drewN n) ((k2.below HB1 (Nat.le_refl _)).drewN n) hl2 hl2).mono ?_
  rintro e w4 ⟨rfl, n2, rfl⟩
  go_wp2
  go_ret
  exact ⟨rfl, by first | exact bDrewN (bDrewN HB1 n) n2 | exact bDrewN HB1 (n + n2)⟩
theorem eqArm_same (A1 : Option Addr) (P : List Int) (c1 : Nat) (A2 : Option Addr) (W : List Int) (c2 : Nat) (A3 : Option Addr) (F : List Int) (c3 : Nat) (B1 : Option Addr) (d1 : Nat) (B2 : Option Addr) (d2 : Nat) (B3 : Option Addr) (d3 : Nat) (w : World)
    (h1 : Rd w A1 (ints P)) (h2 : Rd w A2 (ints W)) (h3 : Rd w A3 (ints F)) (k1 : Rd w B1 (ints P)) (k2 : Rd w B2 (ints W)) (k3 : Rd w B3 (ints F)) (hl1 : P.length ≤ 16777216) (hl2 : W.length ≤ 16777216) (hl3 : F.length ≤ 16777216) :
    Calls Try.prog 27 #[mkV A1 P.length c1 A2 W.length c2 A3 F.length c3, mkV B1 P.length d1 B2 W.length d2 B3 F.length d3] w (Quietly w (.bool true)) := by
  have HB1 : Below w.heap.size w ((w.alloc (.cells #[.slice A1 P.length c1, .slice A2 W.length c2, .slice A3 F.length c3] 39)).alloc (.cells #[.slice B1 P.length d1, .slice B2 W.length d2, .slice B3 F.length d3] 39)) := ((Below.refl _ _).alloc (Nat.le_refl _) _).alloc (by simp) _
  have bx := (Bx3.new w (.slice A1 P.length c1) (.slice A2 W.length c2) (.slice A3 F.length c3) 39).alloc (.cells #[.slice B1 P.length d1, .slice B2 W.length d2, .slice B3 F.length d3] 39)
  have by_ := Bx3.new (w.alloc (.cells #[.slice A1 P.length c1, .slice A2 W.length c2, .slice A3 F.length c3] 39)) (.slice B1 P.length d1) (.slice B2 W.length d2) (.slice B3 F.length d3) 39
  rw [World.size_alloc] at by_
  go_enter Try.func27, Try.ntmps27
  go_wp2_with fail
  generalize (w.alloc (.cells #[.slice A1 P.length c1, .slice A2 W.length c2, .slice A3 F.length c3] 39)).alloc (.cells #[.slice B1 P.length d1, .slice B2 W.length d2, .slice B3 F.length d3] 39) = v at *
  refine (eqTree_same A1 P c1 A2 W c2 B1 d1 B2 d2 _ (h1.below HB1 (Nat.le_refl _)) (h2.below HB1 (Nat.le_refl _)) (k1.below HB1 (Nat.le_refl _)) (k2.below HB1 (Nat.le_refl _)) hl1 hl2).mono ?_
  rintro e w3 ⟨rfl, hb3⟩
  have HB3 := bUp HB1 hb3 HB1.size
  obtain ⟨f0, f1, f2, fz⟩ := bx.below hb3
  obtain ⟨y0, y1, y2, yz⟩ := by_.below hb3
  clear bx by_ hb3
  go_wp2_with fail
  refine (eqIntS_is A3 B3 F F c3 d3 true (by simp) _ (h3.below HB3 (Nat.le_refl _)) (k3.below HB3 (Nat.le_refl _)) hl3 hl3).mono ?_
  rintro e w4 ⟨rfl, n2, rfl⟩
  go_wp2
  go_ret
  exact ⟨rfl, bDrewN HB3 n2⟩

theorem holed_alloc {lo hi : Nat} {w w' : World} (o : Obj) (h : Holed lo hi (w.alloc o) w') : Holed lo hi w w' :=
  ⟨h.os, h.tape, h.output, Nat.le_trans (by simp) h.size, fun k hk hx => (h.block k (by simp; omega) hx).trans (heap_alloc_old w o hk)⟩
end Go.Proofs.Ythhpioohdkglkaa
