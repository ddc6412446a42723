/- LineArm: the program's walk. -/
import Derived.Test.YtmkfhjhiklnbfaaLaR
import Derived.Test.YtmkfhjhiklnbfaaBut2
namespace Go.Proofs.Ytmkfhjhiklnbfaa
open Go.RowKit

/-- Three rows, apart, and apart from a box. -/
structure La3 (w : World) (B g : Nat) (A1 : Option Addr) (c1 : Nat) (A2 : Option Addr) (c2 : Nat) (A3 : Option Addr) (c3 : Nat) (P W F : List Int) : Prop where
  o1 : Own w B A1 c1 P
  o2 : Own w B A2 c2 W
  o3 : Own w B A3 c3 F
  d12 : A1 = none ∨ blk A1 ≠ blk A2
  d13 : A1 = none ∨ blk A1 ≠ blk A3
  d23 : A2 = none ∨ blk A2 ≠ blk A3
  g1 : blk A1 ≠ some g
  g2 : blk A2 ≠ some g
  g3 : blk A3 ≠ some g
  hg : B ≤ g
  hz : g < w.heap.size
section
variable {w w' : World} {B g k n m c1 c2 c3 c4 : Nat} {A1 A2 A3 A4 : Option Addr} {P W F X : List Int}
theorem LaB.three (L : LaB w B g k n m A1 c1 A2 c2 A3 c3 P W F) : La3 w B g A1 c1 A2 c2 A3 c3 P W F := ⟨L.o1, L.o2, L.o3, L.d12, L.d13, L.d23, L.g1, L.g2, L.g3, L.hg, L.bx.2.2.2.2.2.2⟩
theorem La3.below (L : La3 w B g A1 c1 A2 c2 A3 c3 P W F) (hb : Below w.heap.size w w') : La3 w' B g A1 c1 A2 c2 A3 c3 P W F :=
  ⟨L.o1.below hb, L.o2.below hb, L.o3.below hb, L.d12, L.d13, L.d23, L.g1, L.g2, L.g3, L.hg, Nat.lt_of_lt_of_le L.hz hb.size⟩
theorem La3.alloc (L : La3 w B g A1 c1 A2 c2 A3 c3 P W F) (o : Obj) : La3 (w.alloc o) B g A1 c1 A2 c2 A3 c3 P W F := L.below ((Below.refl _ _).alloc (Nat.le_refl _) o)
theorem flip_ne {A A' : Option Addr} (h : A = none ∨ blk A ≠ blk A') : A' = none ∨ blk A' ≠ blk A := by
  rcases h with rfl | h
  · cases A' with
    | none => exact .inl rfl
    | some a => exact .inr (by simp [blk])
  · exact .inr (Ne.symm h)
theorem ne_box (hn : blk A4 = blk A1 ∨ blk A4 = some w.heap.size) (hg : blk A1 ≠ some g) (hz : g < w.heap.size) : blk A4 ≠ some g := by
  rcases hn with h | h
  · rw [h]; exact hg
  · rw [h]; simp; omega
theorem fresh_of (hn : blk A4 = blk A1 ∨ blk A4 = some w.heap.size) : blk A4 = blk A1 ∨ ∃ r, blk A4 = some r ∧ w.heap.size ≤ r := hn.imp id fun h => ⟨_, h, Nat.le_refl _⟩
theorem La3.grow1 (L : La3 w B g A1 c1 A2 c2 A3 c3 P W F) (o : Own w' B A4 c4 X) (hg : w.grownBy w' (blk A1)) (hn : blk A4 = blk A1 ∨ blk A4 = some w.heap.size) : La3 w' B g A4 c4 A2 c2 A3 c3 X W F :=
  ⟨o, L.o2.grown hg (flip_ne L.d12), L.o3.grown hg (flip_ne L.d13), ne_grown (fresh_of hn) L.d12 L.o2, ne_grown (fresh_of hn) L.d13 L.o3, L.d23, ne_box hn L.g1 L.hz, L.g2, L.g3, L.hg, Nat.lt_of_lt_of_le L.hz hg.size⟩
theorem La3.grow2 (L : La3 w B g A1 c1 A2 c2 A3 c3 P W F) (o : Own w' B A4 c4 X) (hg : w.grownBy w' (blk A2)) (hn : blk A4 = blk A2 ∨ blk A4 = some w.heap.size) : La3 w' B g A1 c1 A4 c4 A3 c3 P X F :=
  ⟨L.o1.grown hg L.d12, o, L.o3.grown hg (flip_ne L.d23), flip_ne (ne_grown (fresh_of hn) (flip_ne L.d12) L.o1), L.d13, ne_grown (fresh_of hn) L.d23 L.o3, L.g1, ne_box hn L.g2 L.hz, L.g3, L.hg, Nat.lt_of_lt_of_le L.hz hg.size⟩
theorem lit_ne {A : Option Addr} {c : Nat} {xs : List Int} (o : Own w B A c xs) : (some ⟨w.heap.size, 0, none⟩ : Option Addr) = none ∨ blk (some ⟨w.heap.size, 0, none⟩) ≠ blk A := .inr fun e => by
  have := o.ltk _ e.symm
  simp at this
/-- The two places are stored. -/
theorem La3.put2 {x y : Value} (L : La3 w B g A1 c1 A2 c2 A3 c3 P W F) (b : Bf3 w g x y (.slice A3 m c3)) (k n : Nat) :
    LaB ((w.setCell ⟨g, 0, none⟩ (.slice A1 k c1)).setCell ⟨g, 1, none⟩ (.slice A2 n c2)) B g k n m A1 c1 A2 c2 A3 c3 P W F := by
  obtain ⟨h0, h1, h2, z0, z1, z2, hz⟩ := b
  exact ⟨⟨by simp [go_sem, h0], by simp [go_sem, h1], by simp [go_sem, h2], by simp [go_sem, z0], by simp [go_sem, z1], by simp [go_sem, z2], by simpa [World.size_setCell] using hz⟩,
    (L.o1.setOther _ _ (.inr L.g1)).setOther _ _ (.inr L.g1), (L.o2.setOther _ _ (.inr L.g2)).setOther _ _ (.inr L.g2), (L.o3.setOther _ _ (.inr L.g3)).setOther _ _ (.inr L.g3), L.d12, L.d13, L.d23, L.g1, L.g2, L.g3, L.hg⟩
end

set_option maxRecDepth 20000 in
set_option maxHeartbeats 1000000 in
theorem implLine_c (A : Option Addr) (c : List Int) (cc : Nat) (w : World) (h : Rd w A (ints c)) (hl : c.length ≤ 16777216) :
    Calls Try.prog 9 #[.slice A c.length cc] w (GivesArm w (laP c) (laW c) (laN c) (lineB c)) := by
  by_cases h4 : c.length ≤ 4
  · have h1 : Below w.heap.size w (w.alloc (.cells #[.slice none 0 0, .slice none 0 0, .slice none 0 0] 26)) := (Below.refl _ _).alloc (Nat.le_refl _) _
    have hz : (w.alloc (.cells #[.slice none 0 0, .slice none 0 0, .slice none 0 0] 26)).heap.size = w.heap.size + 1 := by simp
    have hr := h.below h1 (Nat.le_refl _)
    have b0 := Bf3.new w (.slice none 0 0) (.slice none 0 0) (.slice none 0 0) 26
    cases ha : allB c (-99) 99
    · go_enter Try.func9, Try.ntmps9
      go_wp2_with fail
      generalize w.alloc (.cells #[.slice none 0 0, .slice none 0 0, .slice none 0 0] 26) = wa at *
      refine (allWithin_is' A c cc _ ha wa hr hl).mono ?_
      rintro e w2 ⟨rfl, rfl⟩
      obtain ⟨y0, y1, y2, x0, x1, x2, yz⟩ := id b0
      go_wp2_with fail
      refine bodyPost_ret (v := .tuple #[mkV none 0 0 none 0 0 none 0 0, .bool false]) (by simp [results, Try.results9, go_sem, y0, y1, y2]) rfl ?_
      refine gives_no (lineB_all ha) rfl ?_
      with_reducible repeat (first | exact h1 | refine Below.setCell ?_ (by simp) _)
    · go_enter Try.func9, Try.ntmps9
      go_wp2_with fail
      generalize w.alloc (.cells #[.slice none 0 0, .slice none 0 0, .slice none 0 0] 26) = wa at *
      refine (allWithin_is' A c cc _ ha wa hr hl).mono ?_
      rintro e w2 ⟨rfl, rfl⟩
      go_wp2_with fail
      refine (copied_c A c cc wa hr hl).mono ?_
      rintro e w3 ⟨A3, c3, rfl, o3, b3⟩
      have HB3 : Below (w.heap.size + 1) wa w3 := by rw [← hz]; exact b3
      rw [hz] at o3
      clear b3
      have hz3 := HB3.size
      rw [hz] at hz3
      go_wp2_with (at_builtin; refine wp_append1 _ _ _ rfl _ _ rfl (w.heap.size + 1) A3 _ c3 c rfl rfl o3 rfl (by omega) hz3 ?_; intro A4 c4 w4 o4 hg4 hb4; have HB4 := HB3.grown hg4 (by omega) o3.ge; have sz4 := hg4.size; clear hg4 hb4 HB3 o3)
      have n4 : blk A4 ≠ some w4.heap.size := fun e => by have := o4.ltk _ e; omega
      have LB : LaB (w4.alloc (.cells #[.slice none 0 0, .slice none 0 0, .slice A4 (c.length + 1) c4] 26)) (w.heap.size + 1) w4.heap.size 0 0 (c.length + 1) none 0 none 0 A4 c4 (lnP 0) (List.replicate 0 0) (c ++ [0]) :=
        ⟨Bf3.new _ _ _ _ _, Own.nil _ _, Own.nil _ _, o4.alloc _, .inl rfl, .inl rfl, .inl rfl, by simp [blk], by simp [blk], n4, by omega⟩
      have HB : Below (w.heap.size + 1) wa (w4.alloc (.cells #[.slice none 0 0, .slice none 0 0, .slice A4 (c.length + 1) c4] 26)) := HB4.alloc (by omega) _
      clear HB4 o4 n4
      generalize w4.alloc (.cells #[.slice none 0 0, .slice none 0 0, .slice A4 (c.length + 1) c4] 26) = wb at *
      go_loopw [23] (fun i wr => ∃ (k : Nat) (A1 : Option Addr) (c1 : Nat) (A2 : Option Addr) (c2 : Nat), k ≤ c.length + 1 ∧ i = .int .i64 (k : Int) ∧ LaB wr (w.heap.size + 1) w4.heap.size k k (c.length + 1) A1 c1 A2 c2 A4 c4 (lnP k) (List.replicate k 0) (c ++ [0]) ∧ Below (w.heap.size + 1) wa wr) (fun i _ => c.length + 1 - (intOf i).toNat)
      case atStart => exact ⟨0, none, 0, none, 0, by omega, rfl, LB, HB⟩
      case round =>
        clear LB HB
        obtain ⟨k, A1, c1, A2, c2, hk, rfl, LB, HB⟩ := hrel
        have bx := LB.bx
        have L3 := LB.three
        obtain ⟨f0, f1, f2, z0, z1, z2, fz⟩ := id bx
        by_cases hlt : k < c.length + 1
        · have i1 : (k : Int) < ((c.length + 1 : Nat) : Int) := by omega
          go_upto_region 7 with fail
          refine tamed_region (S := fun w' => w'.cell? ⟨w4.heap.size, 0, none⟩ = some (.slice A1 k c1) ∧ w'.cell? ⟨w4.heap.size, 1, none⟩ = some (.slice A2 k c2)) (fun j => j == 14 || j == 17) (by kernel_rfl) ?_
          refine tame0 (k := 0) ?_ rfl (by kernel_rfl) (by kernel_rfl) (by kernel_rfl) (fun _ _ _ h => h) (by kernel_rfl) (fun v => ?_) ?_
          rotate_left
          · (go_simp; all_goals rfl)
          simp only [Act.put, List.setIfInBounds_toArray]
          refine tame0 (k := 1) ?_ rfl (by kernel_rfl) (by kernel_rfl) (by kernel_rfl) (fun _ _ _ h => h) (by kernel_rfl) (fun v => ?_) ?_
          rotate_left
          · (go_simp; all_goals rfl)
          simp only [Act.put]
          refine tame (k := 2) ?_ rfl (by kernel_rfl) (by kernel_rfl) (by kernel_rfl) (by kernel_rfl) (fun _ _ _ h => h) (by kernel_rfl) ⟨f0, f1⟩ (fun v hv => ?_) ?_
          rotate_left
          · (obtain ⟨k1, k2⟩ := hv; go_simp; all_goals rfl)
          simp only [Act.put]
          refine tame0 (k := 3) ?_ rfl (by kernel_rfl) (by kernel_rfl) (by kernel_rfl) (fun _ _ _ h => h) (by kernel_rfl) (fun v => ?_) ?_
          rotate_left
          · (go_simp; all_goals rfl)
          simp only [Act.put]
          refine tame0 (k := 4) ?_ rfl (by kernel_rfl) (by kernel_rfl) (by kernel_rfl) (fun _ _ _ h => h) (by kernel_rfl) (fun v => ?_) ?_
          rotate_left
          · (go_simp; all_goals rfl)
          simp only [Act.put]
          refine tame0 (k := 7) ?_ rfl (by kernel_rfl) (by kernel_rfl) (by kernel_rfl) (fun _ _ _ h => h) (by kernel_rfl) (fun v => ?_) ?_
          rotate_left
          · (go_simp; all_goals rfl)
          simp only [Act.put]
          refine tame0 (k := 8) ?_ rfl (by kernel_rfl) (by kernel_rfl) (by kernel_rfl) (fun _ _ _ h => h) (by kernel_rfl) (fun v => ?_) ?_
          rotate_left
          · (go_simp; all_goals rfl)
          simp only [Act.put]
          refine tame (k := 9) ?_ rfl (by kernel_rfl) (by kernel_rfl) (by kernel_rfl) (by kernel_rfl) (fun _ _ _ h => h) (by kernel_rfl) ⟨f0, f1⟩ (fun v hv => ?_) ?_
          rotate_left
          · (obtain ⟨k1, k2⟩ := hv; go_simp; all_goals rfl)
          simp only [Act.put]
          have e1 : IntKind.i64.wrap ((k : Int) - 1) = (k : Int) - 1 := IntWalk.i64_in _ (by omega)
          have Ld : La3 wr.drew (w.heap.size + 1) w4.heap.size A1 c1 A2 c2 A4 c4 (lnP k) (List.replicate k 0) (c ++ [0]) := L3.below (Below.drew (Below.refl _ _))
          have bd : Bf3 wr.drew w4.heap.size (.slice A1 k c1) (.slice A2 k c2) (.slice A4 (c.length + 1) c4) := bx
          have Hd : Below (w.heap.size + 1) wa wr.drew := HB.drew
          clear bx L3 HB LB
          generalize wr.drew = v0 at *
          refine tame_two (i := 5) (j := 10) (by kernel_rfl) rfl rfl (by kernel_rfl) (by kernel_rfl) ?_ ?_
          · go_simp
            have q5 : Own (v0.alloc (.cells #[.int .i64 ((k : Int) - 1)] 3)) 0 (some ⟨v0.heap.size, 0, none⟩) 1 [((k : Int) - 1)] := (Own.lit v0 [((k : Int) - 1)] (by simp)).mono (by omega)
            have n15 := lit_ne (Ld).o1
            have n25 := lit_ne (Ld).o2
            try simp only [World.size_alloc] at q5 n15 n25
            have L5 := (Ld).alloc (.cells #[.int .i64 ((k : Int) - 1)] 3)
            have b5 := (bd).below ((Below.refl _ _).alloc (Nat.le_refl _) (.cells #[.int .i64 ((k : Int) - 1)] 3))
            have H5 := (Hd).alloc (by have := (Hd).size; omega) (.cells #[.int .i64 ((k : Int) - 1)] 3)
            refine ⟨by first | exact ⟨b5.1, b5.2.1⟩ | exact fun _ => ⟨b5.1, b5.2.1⟩, ?_⟩
            refine tame_two (i := 6) (j := 10) (by kernel_rfl) rfl rfl (by kernel_rfl) (by kernel_rfl) ?_ ?_
            · refine op_append_ints _ (.tmp 28) (.tmp 31) rfl (w.heap.size + 1) A1 k c1 (lnP k) rfl (by rw [lnP_length]) L5.o1 _ 1 1 [((k : Int) - 1)] rfl rfl q5.rd (by rw [lnP_length]; simp; omega) (by have := H5.size; omega) ?_
              intro A5 c5 v6 o6 hg6 hb6
              rw [← lnP_succ] at o6
              have L6 := L5.grow1 o6 hg6 hb6
              have b6 := b5.grown hg6 L5.g1
              have H6 := H5.grown hg6 (by have := H5.size; omega) L5.o1.ge
              refine ⟨by first | exact ⟨b6.1, b6.2.1⟩ | exact fun _ => ⟨b6.1, b6.2.1⟩, ?_⟩
              refine tame0 (k := 12) ?_ rfl (by kernel_rfl) (by kernel_rfl) (by kernel_rfl) (fun _ _ _ h => h) (by kernel_rfl) (fun v => ?_) ?_
              rotate_left
              · (go_simp; all_goals rfl)
              simp only [Act.put, List.setIfInBounds_toArray]
              refine tame0 (k := 13) ?_ rfl (by kernel_rfl) (by kernel_rfl) (by kernel_rfl) (fun _ _ _ h => h) (by kernel_rfl) (fun v => ?_) ?_
              rotate_left
              · (go_simp; all_goals rfl)
              simp only [Act.put]
              refine tame_one (k := 10) (by kernel_rfl) rfl (by kernel_rfl) ?_
              go_simp
              have q10 : Own (v6.alloc (.cells #[.int .i64 0] 3)) 0 (some ⟨v6.heap.size, 0, none⟩) 1 [0] := (Own.lit v6 [0] (by simp)).mono (by omega)
              have n110 := lit_ne (L6).o1
              have n210 := lit_ne (L6).o2
              try simp only [World.size_alloc] at q10 n110 n210
              have L7 := (L6).alloc (.cells #[.int .i64 0] 3)
              have b7 := (b6).below ((Below.refl _ _).alloc (Nat.le_refl _) (.cells #[.int .i64 0] 3))
              have H7 := (H6).alloc (by have := (H6).size; omega) (.cells #[.int .i64 0] 3)
              refine ⟨by first | exact ⟨b7.1, b7.2.1⟩ | exact fun _ => ⟨b7.1, b7.2.1⟩, ?_⟩
              refine tame_one (k := 11) (by kernel_rfl) rfl (by kernel_rfl) ?_
              refine op_append_ints _ (.tmp 35) (.tmp 36) rfl (w.heap.size + 1) A2 k c2 (List.replicate k 0) rfl (by rw [List.length_replicate]) L7.o2 _ 1 1 [0] rfl rfl q10.rd (by rw [List.length_replicate]; simp; omega) (by have := H7.size; omega) ?_
              intro A6 c6 v8 o8 hg8 hb8
              rw [← List.replicate_succ'] at o8
              have L8 := L7.grow2 o8 hg8 hb8
              have b8 := b7.grown hg8 L7.g2
              have H8 := H7.grown hg8 (by have := H7.size; omega) L7.o2.ge
              refine ⟨by first | exact ⟨b8.1, b8.2.1⟩ | exact fun _ => ⟨b8.1, b8.2.1⟩, ?_⟩
              obtain ⟨y0, y1, y2, x0, x1, x2, yz⟩ := id b8
              refine tame_one (k := 14) (by kernel_rfl) rfl (by kernel_rfl) ?_
              go_simp
              refine tame0 (k := 15) ?_ rfl (by kernel_rfl) (by kernel_rfl) (by kernel_rfl) (fun _ _ _ h => h) (by kernel_rfl) (fun v => ?_) ?_
              rotate_left
              · (go_simp; all_goals rfl)
              simp only [Act.put, List.setIfInBounds_toArray]
              refine tame0 (k := 16) ?_ rfl (by kernel_rfl) (by kernel_rfl) (by kernel_rfl) (fun _ _ _ h => h) (by kernel_rfl) (fun v => ?_) ?_
              rotate_left
              · (go_simp; all_goals rfl)
              simp only [Act.put]
              refine tame_one (k := 17) (by kernel_rfl) rfl (by kernel_rfl) ?_
              go_simp
              refine tame_end (by kernel_rfl) ?_
              go_wp2_with fail
              go_roundw
              case rel => exact ⟨k + 1, A5, c5, A6, c6, by omega, by go_num, L8.put2 b8 (k + 1) (k + 1), (H8.setCell (by simp; omega) _).setCell (by simp; omega) _⟩
              case measure => simp [intOf] <;> omega
            · go_simp
              have q10 : Own ((v0.alloc (.cells #[.int .i64 ((k : Int) - 1)] 3)).alloc (.cells #[.int .i64 0] 3)) 0 (some ⟨(v0.alloc (.cells #[.int .i64 ((k : Int) - 1)] 3)).heap.size, 0, none⟩) 1 [0] := (Own.lit (v0.alloc (.cells #[.int .i64 ((k : Int) - 1)] 3)) [0] (by simp)).mono (by omega)
              have q5 := q5.alloc (.cells #[.int .i64 0] 3)
              have n110 := lit_ne (L5).o1
              have n210 := lit_ne (L5).o2
              try simp only [World.size_alloc] at q10 n110 n210
              have L6 := (L5).alloc (.cells #[.int .i64 0] 3)
              have b6 := (b5).below ((Below.refl _ _).alloc (Nat.le_refl _) (.cells #[.int .i64 0] 3))
              have H6 := (H5).alloc (by have := (H5).size; omega) (.cells #[.int .i64 0] 3)
              refine ⟨by first | exact ⟨b6.1, b6.2.1⟩ | exact fun _ => ⟨b6.1, b6.2.1⟩, ?_⟩
              refine tame_one (k := 6) (by kernel_rfl) rfl (by kernel_rfl) ?_
              refine op_append_ints _ (.tmp 28) (.tmp 31) rfl (w.heap.size + 1) A1 k c1 (lnP k) rfl (by rw [lnP_length]) L6.o1 _ 1 1 [((k : Int) - 1)] rfl rfl q5.rd (by rw [lnP_length]; simp; omega) (by have := H6.size; omega) ?_
              intro A5 c5 v7 o7 hg7 hb7
              rw [← lnP_succ] at o7
              have L7 := L6.grow1 o7 hg7 hb7
              have b7 := b6.grown hg7 L6.g1
              have H7 := H6.grown hg7 (by have := H6.size; omega) L6.o1.ge
              have q10 := q10.grown hg7 n110
              refine ⟨by first | exact ⟨b7.1, b7.2.1⟩ | exact fun _ => ⟨b7.1, b7.2.1⟩, ?_⟩
              refine tame0 (k := 12) ?_ rfl (by kernel_rfl) (by kernel_rfl) (by kernel_rfl) (fun _ _ _ h => h) (by kernel_rfl) (fun v => ?_) ?_
              rotate_left
              · (go_simp; all_goals rfl)
              simp only [Act.put, List.setIfInBounds_toArray]
              refine tame0 (k := 13) ?_ rfl (by kernel_rfl) (by kernel_rfl) (by kernel_rfl) (fun _ _ _ h => h) (by kernel_rfl) (fun v => ?_) ?_
              rotate_left
              · (go_simp; all_goals rfl)
              simp only [Act.put]
              refine tame_one (k := 11) (by kernel_rfl) rfl (by kernel_rfl) ?_
              refine op_append_ints _ (.tmp 35) (.tmp 36) rfl (w.heap.size + 1) A2 k c2 (List.replicate k 0) rfl (by rw [List.length_replicate]) L7.o2 _ 1 1 [0] rfl rfl q10.rd (by rw [List.length_replicate]; simp; omega) (by have := H7.size; omega) ?_
              intro A6 c6 v8 o8 hg8 hb8
              rw [← List.replicate_succ'] at o8
              have L8 := L7.grow2 o8 hg8 hb8
              have b8 := b7.grown hg8 L7.g2
              have H8 := H7.grown hg8 (by have := H7.size; omega) L7.o2.ge
              refine ⟨by first | exact ⟨b8.1, b8.2.1⟩ | exact fun _ => ⟨b8.1, b8.2.1⟩, ?_⟩
              obtain ⟨y0, y1, y2, x0, x1, x2, yz⟩ := id b8
              refine tame_one (k := 14) (by kernel_rfl) rfl (by kernel_rfl) ?_
              go_simp
              refine tame0 (k := 15) ?_ rfl (by kernel_rfl) (by kernel_rfl) (by kernel_rfl) (fun _ _ _ h => h) (by kernel_rfl) (fun v => ?_) ?_
              rotate_left
              · (go_simp; all_goals rfl)
              simp only [Act.put, List.setIfInBounds_toArray]
              refine tame0 (k := 16) ?_ rfl (by kernel_rfl) (by kernel_rfl) (by kernel_rfl) (fun _ _ _ h => h) (by kernel_rfl) (fun v => ?_) ?_
              rotate_left
              · (go_simp; all_goals rfl)
              simp only [Act.put]
              refine tame_one (k := 17) (by kernel_rfl) rfl (by kernel_rfl) ?_
              go_simp
              refine tame_end (by kernel_rfl) ?_
              go_wp2_with fail
              go_roundw
              case rel => exact ⟨k + 1, A5, c5, A6, c6, by omega, by go_num, L8.put2 b8 (k + 1) (k + 1), (H8.setCell (by simp; omega) _).setCell (by simp; omega) _⟩
              case measure => simp [intOf] <;> omega
          · go_simp
            have q10 : Own (v0.alloc (.cells #[.int .i64 0] 3)) 0 (some ⟨v0.heap.size, 0, none⟩) 1 [0] := (Own.lit v0 [0] (by simp)).mono (by omega)
            have n110 := lit_ne (Ld).o1
            have n210 := lit_ne (Ld).o2
            try simp only [World.size_alloc] at q10 n110 n210
            have L5 := (Ld).alloc (.cells #[.int .i64 0] 3)
            have b5 := (bd).below ((Below.refl _ _).alloc (Nat.le_refl _) (.cells #[.int .i64 0] 3))
            have H5 := (Hd).alloc (by have := (Hd).size; omega) (.cells #[.int .i64 0] 3)
            refine ⟨by first | exact ⟨b5.1, b5.2.1⟩ | exact fun _ => ⟨b5.1, b5.2.1⟩, ?_⟩
            refine tame_one (k := 5) (by kernel_rfl) rfl (by kernel_rfl) ?_
            go_simp
            have q5 : Own ((v0.alloc (.cells #[.int .i64 0] 3)).alloc (.cells #[.int .i64 ((k : Int) - 1)] 3)) 0 (some ⟨(v0.alloc (.cells #[.int .i64 0] 3)).heap.size, 0, none⟩) 1 [((k : Int) - 1)] := (Own.lit (v0.alloc (.cells #[.int .i64 0] 3)) [((k : Int) - 1)] (by simp)).mono (by omega)
            have q10 := q10.alloc (.cells #[.int .i64 ((k : Int) - 1)] 3)
            have n15 := lit_ne (L5).o1
            have n25 := lit_ne (L5).o2
            try simp only [World.size_alloc] at q5 n15 n25
            have L6 := (L5).alloc (.cells #[.int .i64 ((k : Int) - 1)] 3)
            have b6 := (b5).below ((Below.refl _ _).alloc (Nat.le_refl _) (.cells #[.int .i64 ((k : Int) - 1)] 3))
            have H6 := (H5).alloc (by have := (H5).size; omega) (.cells #[.int .i64 ((k : Int) - 1)] 3)
            refine ⟨by first | exact ⟨b6.1, b6.2.1⟩ | exact fun _ => ⟨b6.1, b6.2.1⟩, ?_⟩
            refine tame_one (k := 6) (by kernel_rfl) rfl (by kernel_rfl) ?_
            refine op_append_ints _ (.tmp 28) (.tmp 31) rfl (w.heap.size + 1) A1 k c1 (lnP k) rfl (by rw [lnP_length]) L6.o1 _ 1 1 [((k : Int) - 1)] rfl rfl q5.rd (by rw [lnP_length]; simp; omega) (by have := H6.size; omega) ?_
            intro A5 c5 v7 o7 hg7 hb7
            rw [← lnP_succ] at o7
            have L7 := L6.grow1 o7 hg7 hb7
            have b7 := b6.grown hg7 L6.g1
            have H7 := H6.grown hg7 (by have := H6.size; omega) L6.o1.ge
            have q10 := q10.grown hg7 n110
            refine ⟨by first | exact ⟨b7.1, b7.2.1⟩ | exact fun _ => ⟨b7.1, b7.2.1⟩, ?_⟩
            refine tame0 (k := 12) ?_ rfl (by kernel_rfl) (by kernel_rfl) (by kernel_rfl) (fun _ _ _ h => h) (by kernel_rfl) (fun v => ?_) ?_
            rotate_left
            · (go_simp; all_goals rfl)
            simp only [Act.put, List.setIfInBounds_toArray]
            refine tame0 (k := 13) ?_ rfl (by kernel_rfl) (by kernel_rfl) (by kernel_rfl) (fun _ _ _ h => h) (by kernel_rfl) (fun v => ?_) ?_
            rotate_left
            · (go_simp; all_goals rfl)
            simp only [Act.put]
            refine tame_one (k := 11) (by kernel_rfl) rfl (by kernel_rfl) ?_
            refine op_append_ints _ (.tmp 35) (.tmp 36) rfl (w.heap.size + 1) A2 k c2 (List.replicate k 0) rfl (by rw [List.length_replicate]) L7.o2 _ 1 1 [0] rfl rfl q10.rd (by rw [List.length_replicate]; simp; omega) (by have := H7.size; omega) ?_
            intro A6 c6 v8 o8 hg8 hb8
            rw [← List.replicate_succ'] at o8
            have L8 := L7.grow2 o8 hg8 hb8
            have b8 := b7.grown hg8 L7.g2
            have H8 := H7.grown hg8 (by have := H7.size; omega) L7.o2.ge
            refine ⟨by first | exact ⟨b8.1, b8.2.1⟩ | exact fun _ => ⟨b8.1, b8.2.1⟩, ?_⟩
            obtain ⟨y0, y1, y2, x0, x1, x2, yz⟩ := id b8
            refine tame_one (k := 14) (by kernel_rfl) rfl (by kernel_rfl) ?_
            go_simp
            refine tame0 (k := 15) ?_ rfl (by kernel_rfl) (by kernel_rfl) (by kernel_rfl) (fun _ _ _ h => h) (by kernel_rfl) (fun v => ?_) ?_
            rotate_left
            · (go_simp; all_goals rfl)
            simp only [Act.put, List.setIfInBounds_toArray]
            refine tame0 (k := 16) ?_ rfl (by kernel_rfl) (by kernel_rfl) (by kernel_rfl) (fun _ _ _ h => h) (by kernel_rfl) (fun v => ?_) ?_
            rotate_left
            · (go_simp; all_goals rfl)
            simp only [Act.put]
            refine tame_one (k := 17) (by kernel_rfl) rfl (by kernel_rfl) ?_
            go_simp
            refine tame_end (by kernel_rfl) ?_
            go_wp2_with fail
            go_roundw
            case rel => exact ⟨k + 1, A5, c5, A6, c6, by omega, by go_num, L8.put2 b8 (k + 1) (k + 1), (H8.setCell (by simp; omega) _).setCell (by simp; omega) _⟩
            case measure => simp [intOf] <;> omega
        · have hkn : k = c.length + 1 := by omega
          subst hkn
          have i1 : ¬ ((c.length + 1 : Nat) : Int) < (c.length + 1 : Nat) := by omega
          obtain ⟨r, rfl, hr1, hr2⟩ := LB.o2.form (by simp)
          obtain ⟨u0, hco⟩ := LB.o2.some_ (k := c.length) (by simp)
          have hfo := LB.o2.frozen c.length
          have LM := LB.mark c.length 1
          rw [show (List.replicate (c.length + 1) (0 : Int)).set c.length 1 = lnW c.length from rfl] at LM
          have n1 : r ≠ w4.heap.size := fun e => LB.g2 (by rw [e]; rfl)
          have n2 : w4.heap.size ≠ r := Ne.symm n1
          have j1 : (0 : Int) ≤ (c.length : Int) := by omega
          have j2 : (c.length : Int) < ((c.length + 1 : Nat) : Int) := by omega
          have HM : Below (w.heap.size + 1) wa (wr.setCell ⟨r, c.length, none⟩ (.int .i64 1)) := HB.setCell hr1 _
          have b05 := b0.below' HM (by omega)
          obtain ⟨y0, y1, y2, x0, x1, x2, yz⟩ := id b05
          have k1 : w4.heap.size ≠ w.heap.size := by omega
          have k2 : w.heap.size ≠ w4.heap.size := Ne.symm k1
          obtain ⟨g0, g1, g2, v0, v1, v2, vz⟩ := id LM.bx
          go_wp2_with fail
          have L6 := LM.other w.heap.size (by omega) (.slice A1 (c.length + 1) c1) (.slice (some ⟨r, 0, none⟩) (c.length + 1) c2) (.slice A4 (c.length + 1) c4)
          refine bodyPost_ret (v := .tuple #[mkV A1 (c.length + 1) c1 (some ⟨r, 0, none⟩) (c.length + 1) c2 A4 (c.length + 1) c4, .bool true]) (by simp [results, Try.results9, go_sem, y0, y1, y2]) rfl ?_
          refine gives_yes (lineB_yes h4 ha) L6 (by omega) rfl ?_
          have H6 := h1.trans (HM.mono (by omega))
          with_reducible repeat (first | exact H6 | refine Below.setCell ?_ (by simp) _)
  · go_enter Try.func9, Try.ntmps9
    go_wp2_with fail
    refine bodyPost_ret (v := .tuple #[mkV none 0 0 none 0 0 none 0 0, .bool false]) (by simp [results, Try.results9, go_sem]) rfl ?_
    refine gives_no (lineB_len h4) rfl ?_
    exact (Below.refl _ _).alloc (Nat.le_refl _) _
end Go.Proofs.Ytmkfhjhiklnbfaa
