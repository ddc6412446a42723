/- The draw of a market and a strike. -/
import Derived.Test.YtnhclpajfejnoaaDrK
import Derived.Test.YtnhclpajfejnoaaByt
namespace Go.Proofs.Ytnhclpajfejnoaa
open Go.RowKit

theorem below_box6 {w w1 w2 : World} {o : Obj} {o2 : Obj} (h1 : w1 = (w.alloc o2).alloc o) (h : w1.grownBy w2 (some (w.heap.size + 1))) : Below w.heap.size w w2 := by
  subst h1
  exact (((Below.refl _ _).alloc (Nat.le_refl _) o2).alloc (by simp) o).grown h (by simp; omega) (fun b e => by injection e with e; omega)
/-- A market and a number have been drawn. -/
def MkNDrawn (w : World) (e : Ending) (w' : World) : Prop := ∃ A1 c1 P A2 c2 W A3 c3 F, ∃ k : Int, e = .returned (.tuple #[mkV A1 P.length c1 A2 W.length c2 A3 F.length c3, .int .i64 k]) ∧ P.length ≤ 60 ∧ W.length ≤ 60 ∧ F.length ≤ 60 ∧ RdM w' A1 P A2 W A3 F ∧ Below w.heap.size w w'
set_option maxRecDepth 20000 in
set_option maxHeartbeats 1000000 in
theorem drawCa_c (A : Option Addr) (bs : List Int) (c : Nat) (w : World) (hr : Rd w A (u8s bs)) (hb : ByOk bs) (hl : bs.length ≤ 65537) :
    Calls Try.prog 8 #[.slice A bs.length c] w (MkNDrawn w) := by
  have B0 := (Bz.new w (.slice none 0 0) (.slice none 0 0) (.slice none 0 0) 28).below ((Below.refl _ _).alloc (Nat.le_refl _) (.cells #[.slice A bs.length c, .int .i64 0, .int .u64 0] 75))
  have hC := CurS.new (w.alloc (.cells #[.slice none 0 0, .slice none 0 0, .slice none 0 0] 28)) A bs c 75 (hr.alloc _) hb (by omega)
  rw [World.size_alloc] at hC
  go_enter Try.func8, Try.ntmps8
  go_wp2_with fail
  refine (market_c _ _ _ hC (by omega)).mono ?_
  rintro e w2 ⟨A1, c1, P, A2, c2, W, A3, c3, F, rfl, hP, hW, hF, o1, o2, o3, hc, hg⟩
  have B2 := B0.grownR hg (by intro e; injection e with e; omega)
  have R0 := (Own.lit w2 [5, 3, 8, 0, 20, 21, -1, 10] (by decide)).rd
  have bl : Below w2.heap.size w2 (w2.alloc (.cells (ints [5, 3, 8, 0, 20, 21, -1, 10]).toArray 3)) := (Below.refl _ _).alloc (Nat.le_refl _) _
  have hz := hg.size
  simp only [World.size_alloc] at hz o1 o2 o3
  go_wp2_with fail
  refine (among_c _ _ _ [5, 3, 8, 0, 20, 21, -1, 10] _ _ _ (hc.below bl) (by omega) R0 (fun ad e => by injection e with e; rw [← e]; show w2.heap.size ≠ _; omega) rfl (by decide) (by decide)).mono ?_
  rintro e w3 ⟨u, rfl, ⟨q, hq, rfl⟩, hc3, hg3⟩
  have hg2 : (((w.alloc (.cells #[.slice none 0 0, .slice none 0 0, .slice none 0 0] 28)).alloc (.cells #[.slice A bs.length c, .int .i64 0, .int .u64 0] 75))).grownBy w3 (some (w.heap.size + 1)) := (grown_low hg bl).trans hg3
  have B3 := (B2.below bl).grownR hg3 (by intro e; injection e with e; omega)
  have p1 := ((o1.below bl).grown hg3 (own_apart (o1.below bl) (by omega)))
  have p2 := ((o2.below bl).grown hg3 (own_apart (o2.below bl) (by omega)))
  have p3 := ((o3.below bl).grown hg3 (own_apart (o3.below bl) (by omega)))
  have HB := below_box6 rfl hg2
  have gs : w3.grownBy (((w3.setCell ⟨w.heap.size, 0, none⟩ (.slice A1 P.length c1)).setCell ⟨w.heap.size, 1, none⟩ (.slice A2 W.length c2)).setCell ⟨w.heap.size, 2, none⟩ (.slice A3 F.length c3)) (some w.heap.size) := ((grown_setCell w3 ⟨w.heap.size, 0, none⟩ _).trans (grown_setCell _ ⟨w.heap.size, 1, none⟩ _)).trans (grown_setCell _ ⟨w.heap.size, 2, none⟩ _)
  have HB2 := HB.grown gs HB.size (fun b e => by injection e with e; omega)
  have R1 := (p1.grown gs (own_apart p1 (by omega))).rd
  have R2 := (p2.grown gs (own_apart p2 (by omega))).rd
  have R3 := (p3.grown gs (own_apart p3 (by omega))).rd
  obtain ⟨⟨k0, k1, k2, k3⟩, k4, k5, k6⟩ := id B3
  generalize nth [5, 3, 8, 0, 20, 21, -1, 10] q = k at *
  clear hC B0 B2 R0 hc hc3 hg hg3 hg2 gs p1 p2 p3 o1 o2 o3 hq
  go_wp2_with fail
  exact bodyPost_ret (v := .tuple #[mkV A1 P.length c1 A2 W.length c2 A3 F.length c3, .int .i64 k]) (by simp [results, Try.results8, go_sem, k0, k1, k2]) rfl ⟨A1, c1, P, A2, c2, W, A3, c3, F, k, rfl, hP, hW, hF, ⟨R1, R2, R3, by omega, by omega, by omega⟩, HB2⟩
end Go.Proofs.Ytnhclpajfejnoaa
