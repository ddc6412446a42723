/- Marks on structs of three rows that lie anywhere (Arm): written and read. -/
import Derived.Test.YtmkfhjhiklnbfaaMk2
namespace Go.Proofs.Ytmkfhjhiklnbfaa
open Go.RowKit

/-- Three rows of the call's own between two bounds, apart. -/
structure Arm3 (w : World) (lo hi : Nat) (A1 : Option Addr) (c1 : Nat) (A2 : Option Addr) (c2 : Nat) (A3 : Option Addr) (c3 : Nat) (P W F : List Int) : Prop where
  o1 : Own w lo A1 c1 P
  o2 : Own w lo A2 c2 W
  o3 : Own w lo A3 c3 F
  h1 : ∀ k, blk A1 = some k → k < hi
  h2 : ∀ k, blk A2 = some k → k < hi
  h3 : ∀ k, blk A3 = some k → k < hi
  d12 : A1 = none ∨ blk A1 ≠ blk A2
  d13 : A1 = none ∨ blk A1 ≠ blk A3
  d23 : A2 = none ∨ blk A2 ≠ blk A3
section
variable {w w' : World} {lo hi c1 c2 c3 : Nat} {A1 A2 A3 : Option Addr} {P W F : List Int}
theorem Arm3.same (L : Arm3 w lo hi A1 c1 A2 c2 A3 c3 P W F) (h : ∀ k, k < w.heap.size → lo ≤ k → k < hi → w'.heap[k]? = w.heap[k]?) : Arm3 w' lo hi A1 c1 A2 c2 A3 c3 P W F :=
  ⟨L.o1.same fun k hk => h k (L.o1.ltk k hk) (L.o1.ge k hk) (L.h1 k hk), L.o2.same fun k hk => h k (L.o2.ltk k hk) (L.o2.ge k hk) (L.h2 k hk), L.o3.same fun k hk => h k (L.o3.ltk k hk) (L.o3.ge k hk) (L.h3 k hk), L.h1, L.h2, L.h3, L.d12, L.d13, L.d23⟩
theorem Arm3.below (L : Arm3 w lo hi A1 c1 A2 c2 A3 c3 P W F) (hb : Below w.heap.size w w') : Arm3 w' lo hi A1 c1 A2 c2 A3 c3 P W F := L.same fun k hk _ _ => hb.block k hk
theorem Arm3.drewN (L : Arm3 w lo hi A1 c1 A2 c2 A3 c3 P W F) (n : Nat) : Arm3 (w.drewN n) lo hi A1 c1 A2 c2 A3 c3 P W F := L.same fun _ _ _ _ => rfl
theorem Arm3.alloc (L : Arm3 w lo hi A1 c1 A2 c2 A3 c3 P W F) (o : Obj) : Arm3 (w.alloc o) lo hi A1 c1 A2 c2 A3 c3 P W F := L.below ((Below.refl _ _).alloc (Nat.le_refl _) o)
theorem Arm3.grown {r : Option Nat} (L : Arm3 w lo hi A1 c1 A2 c2 A3 c3 P W F) (hg : w.grownBy w' r) (hr : ∀ k, r = some k → k < lo ∨ hi ≤ k) : Arm3 w' lo hi A1 c1 A2 c2 A3 c3 P W F :=
  L.same fun k hk h1 h2 => hg.block k hk fun e => by have := hr k e.symm; omega
theorem Arm3.holed {a b : Nat} (L : Arm3 w lo hi A1 c1 A2 c2 A3 c3 P W F) (hh : Holed a b w w') (hr : hi ≤ a ∨ b ≤ lo) : Arm3 w' lo hi A1 c1 A2 c2 A3 c3 P W F :=
  L.same fun k hk h1 h2 => hh.block k hk (by omega)
theorem Holed.grownA {A : Option Addr} {a b : World} (h : Holed lo hi w a) (hg : a.grownBy b (blk A)) (hr : ∀ k, blk A = some k → lo ≤ k ∧ k < hi) : Holed lo hi w b :=
  ⟨hg.os.trans h.os, hg.tape.trans h.tape, hg.output.trans h.output, Nat.le_trans h.size hg.size, fun k hk hx =>
    (hg.block k (Nat.lt_of_lt_of_le hk h.size) (fun e => by have := hr k e.symm; omega)).trans (h.block k hk hx)⟩
theorem Bx3.same {g : Nat} {x y z : Value} (h : Bx3 w g x y z) (hg : w'.heap[g]? = w.heap[g]?) (hs : w.heap.size ≤ w'.heap.size) : Bx3 w' g x y z :=
  ⟨(World.cell?_of_block (a := ⟨g, 0, none⟩) hg).trans h.1, (World.cell?_of_block (a := ⟨g, 1, none⟩) hg).trans h.2.1, (World.cell?_of_block (a := ⟨g, 2, none⟩) hg).trans h.2.2.1, Nat.lt_of_lt_of_le h.2.2.2 hs⟩
theorem flipR {A A' : Option Addr} (h : A = none ∨ blk A ≠ blk A') : A' = none ∨ blk A' ≠ blk A := by
  rcases h with rfl | h
  · cases A' with
    | none => exact .inl rfl
    | some a => exact .inr (by simp [blk])
  · exact .inr (Ne.symm h)
end

theorem markTreeR_c (A1 : Option Addr) (P : List Int) (c1 : Nat) (A2 : Option Addr) (W : List Int) (c2 : Nat) (B lo hi : Nat) (m : Int) (w : World) (o1 : Own w B A1 c1 P) (o2 : Own w B A2 c2 W) (d : A1 = none ∨ blk A1 ≠ blk A2) (hl1 : P.length ≤ 16777216) (hl2 : W.length ≤ 16777216) (hm0 : 0 ≤ m) (hm : m ≤ 1000000000)
    (hr1 : ∀ k, blk A1 = some k → lo ≤ k ∧ k < hi) (hr2 : ∀ k, blk A2 = some k → lo ≤ k ∧ k < hi) (_hh : hi ≤ w.heap.size) :
    Calls Try.prog 31 #[trV A1 P.length c1 A2 W.length c2, .int .i64 m] w fun e w' => e = .returned (.int .i64 (m + P.length + W.length)) ∧
      Own w' B A1 c1 (marks m P.length) ∧ Own w' B A2 c2 (marks (m + P.length) W.length) ∧ Holed lo hi w w' ∧ (∀ A c xs, Own w B A c xs → (A = none ∨ blk A ≠ blk A1) → (A = none ∨ blk A ≠ blk A2) → Own w' B A c xs) := by
  have hH : Holed lo hi (w.alloc (.cells #[.slice A1 P.length c1, .slice A2 W.length c2] 24)) (w.alloc (.cells #[.slice A1 P.length c1, .slice A2 W.length c2] 24)) := Holed.refl _ _ _
  have bx := Bx.new w (.slice A1 P.length c1) (.slice A2 W.length c2) 24
  have n1 : blk A1 ≠ some w.heap.size := fun e => by have := o1.ltk _ e; omega
  have n2 : blk A2 ≠ some w.heap.size := fun e => by have := o2.ltk _ e; omega
  have o1 := o1.alloc (.cells #[.slice A1 P.length c1, .slice A2 W.length c2] 24)
  have o2 := o2.alloc (.cells #[.slice A1 P.length c1, .slice A2 W.length c2] 24)
  go_enter Try.func31, Try.ntmps31
  go_wp2_with fail
  refine (markIntS_c _ _ _ _ _ _ o1 hl1 hm0 (by omega)).mono ?_
  rintro e w2 ⟨rfl, om1, hg1⟩
  have H1 := hH.grownA hg1 hr1
  have o21 := o2.grown hg1 (flipR d)
  have f1 := (World.cell?_of_block (a := ⟨w.heap.size, 1, none⟩) (hg1.block w.heap.size (by simp) (Ne.symm n1))).trans bx.2.1
  clear o2 hH bx
  go_wp2_with fail
  refine (markIntS_c _ _ _ _ _ _ o21 hl2 (by omega) (by omega)).mono ?_
  rintro e w3 ⟨rfl, om2, hg2⟩
  have H2 := H1.grownA hg2 hr2
  have om12 := om1.grown hg2 d
  go_wp2
  go_ret
  exact ⟨rfl, om12, om2, holed_alloc _ H2, fun A c xs ho ha hb => ((ho.alloc _).grown hg1 ha).grown hg2 hb⟩
theorem markArmR_c (A1 : Option Addr) (P : List Int) (c1 : Nat) (A2 : Option Addr) (W : List Int) (c2 : Nat) (A3 : Option Addr) (F : List Int) (c3 : Nat) (lo hi : Nat) (m : Int) (w : World) (ho : Arm3 w lo hi A1 c1 A2 c2 A3 c3 P W F) (hl1 : P.length ≤ 16777216) (hl2 : W.length ≤ 16777216) (hl3 : F.length ≤ 16777216) (hm0 : 0 ≤ m) (hm : m ≤ 1000000)
    (hh : hi ≤ w.heap.size) :
    Calls Try.prog 13 #[mkV A1 P.length c1 A2 W.length c2 A3 F.length c3, .int .i64 m] w fun e w' => e = .returned (.int .i64 (m + P.length + W.length + F.length)) ∧
      Arm3 w' lo hi A1 c1 A2 c2 A3 c3 (marks m P.length) (marks (m + P.length) W.length) (marks (m + P.length + W.length) F.length) ∧ Holed lo hi w w' := by
  have o1 := ho.alloc (.cells #[.slice A1 P.length c1, .slice A2 W.length c2, .slice A3 F.length c3] 26)
  have bx := Bx3.new w (.slice A1 P.length c1) (.slice A2 W.length c2) (.slice A3 F.length c3) 26
  have n1 : blk A1 ≠ some w.heap.size := fun e => by have := ho.o1.ltk _ e; omega
  have n2 : blk A2 ≠ some w.heap.size := fun e => by have := ho.o2.ltk _ e; omega
  go_enter Try.func13, Try.ntmps13
  go_wp2_with fail
  refine (markTreeR_c A1 P c1 A2 W c2 lo lo hi m _ o1.o1 o1.o2 o1.d12 hl1 hl2 hm0 (by omega) (fun k hk => ⟨o1.o1.ge k hk, o1.h1 k hk⟩) (fun k hk => ⟨o1.o2.ge k hk, o1.h2 k hk⟩) (by simp; omega)).mono ?_
  rintro e w2 ⟨rfl, om1, om2, H1, hx⟩
  have o3 := hx _ _ _ o1.o3 (flipR o1.d13) (flipR o1.d23)
  have f2 := (World.cell?_of_block (a := ⟨w.heap.size, 2, none⟩) (H1.block w.heap.size (by simp) (.inr (by omega)))).trans bx.2.2.1
  have h3 := o1.h3
  have d13 := o1.d13
  have d23 := o1.d23
  have d12 := o1.d12
  have h1 := o1.h1
  have h2 := o1.h2
  clear bx o1 hx
  go_wp2_with fail
  refine (markIntS_c _ _ _ _ _ _ o3 hl3 (by omega) (by omega)).mono ?_
  rintro e w3 ⟨rfl, om3, hg2⟩
  have H2 := H1.grownA hg2 (fun k hk => ⟨o3.ge k hk, h3 k hk⟩)
  have om1' := om1.grown hg2 d13
  have om2' := om2.grown hg2 d23
  go_wp2
  go_ret
  exact ⟨rfl, ⟨om1', om2', om3, h1, h2, h3, d12, d13, d23⟩, holed_alloc _ H2⟩

theorem heldTree_c (A1 : Option Addr) (n1 c1 : Nat) (A2 : Option Addr) (n2 c2 : Nat) (m : Int) (w : World) (h1 : Rd w A1 (ints (marks m n1))) (h2 : Rd w A2 (ints (marks (m + n1) n2))) (hl1 : n1 ≤ 16777216) (hl2 : n2 ≤ 16777216) (hm0 : 0 ≤ m) (hm : m ≤ 1000000000) :
    Calls Try.prog 32 #[trV A1 n1 c1 A2 n2 c2, .int .i64 m] w (Quietly w (.int .i64 (m + n1 + n2))) := by
  have HB1 : Below w.heap.size w (w.alloc (.cells #[.slice A1 n1 c1, .slice A2 n2 c2] 24)) := (Below.refl _ _).alloc (Nat.le_refl _) _
  go_enter Try.func32, Try.ntmps32
  go_wp2_with fail
  refine (heldIntS_c _ _ _ _ _ (h1.below HB1 (Nat.le_refl _)) hl1 hm0 (by omega)).mono ?_
  rintro e w2 ⟨rfl, n, rfl⟩
  go_wp2_with fail
  refine (heldIntS_c _ _ _ _ _ ((h2.below HB1 (Nat.le_refl _)).drewN n) hl2 (by omega) (by omega)).mono ?_
  rintro e w2 ⟨rfl, n', rfl⟩
  go_wp2
  go_ret
  exact ⟨rfl, by first | exact bDrewN (bDrewN HB1 n) n' | exact bDrewN HB1 (n + n')⟩
theorem heldArm_c (A1 : Option Addr) (n1 c1 : Nat) (A2 : Option Addr) (n2 c2 : Nat) (A3 : Option Addr) (n3 c3 : Nat) (m : Int) (w : World) (h1 : Rd w A1 (ints (marks m n1))) (h2 : Rd w A2 (ints (marks (m + n1) n2))) (h3 : Rd w A3 (ints (marks (m + n1 + n2) n3))) (hl1 : n1 ≤ 16777216) (hl2 : n2 ≤ 16777216) (hl3 : n3 ≤ 16777216) (hm0 : 0 ≤ m) (hm : m ≤ 1000000) :
    Calls Try.prog 14 #[mkV A1 n1 c1 A2 n2 c2 A3 n3 c3, .int .i64 m] w (Quietly w (.int .i64 (m + n1 + n2 + n3))) := by
  have HB1 : Below w.heap.size w (w.alloc (.cells #[.slice A1 n1 c1, .slice A2 n2 c2, .slice A3 n3 c3] 26)) := (Below.refl _ _).alloc (Nat.le_refl _) _
  have bx := Bx3.new w (.slice A1 n1 c1) (.slice A2 n2 c2) (.slice A3 n3 c3) 26
  go_enter Try.func14, Try.ntmps14
  go_wp2_with fail
  refine (heldTree_c _ _ _ _ _ _ _ _ (h1.below HB1 (Nat.le_refl _)) (h2.below HB1 (Nat.le_refl _)) hl1 hl2 hm0 (by omega)).mono ?_
  rintro e w2 ⟨rfl, b2⟩
  have HB2 := bUp HB1 b2 HB1.size
  obtain ⟨f0, f1, f2, fz⟩ := bx.below b2
  clear bx b2 HB1
  go_wp2_with fail
  refine (heldIntS_c _ _ _ _ _ (h3.below HB2 (Nat.le_refl _)) hl3 (by omega) (by omega)).mono ?_
  rintro e w2 ⟨rfl, n', rfl⟩
  go_wp2
  go_ret
  exact ⟨rfl, bDrewN HB2 n'⟩
end Go.Proofs.Ytmkfhjhiklnbfaa
