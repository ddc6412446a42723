/- FreeGain: the reference's walk. (Written by gen_fgs.py.) -/
import Derived.Test.YtnhclpajfejnoaaFgI
namespace Go.Proofs.Ytnhclpajfejnoaa
open Go.RowKit

/-- A box of three cells that may be turned. -/
structure Bz (W : World) (g : Nat) (x y z : Value) : Prop where
  b : Bx3 W g x y z
  f0 : W.frozen? ⟨g, 0, none⟩ = false
  f1 : W.frozen? ⟨g, 1, none⟩ = false
  f2 : W.frozen? ⟨g, 2, none⟩ = false
theorem Bz.new (w : World) (x y z : Value) (t : TypeId) : Bz (w.alloc (.cells #[x, y, z] t)) w.heap.size x y z := by
  have h : (w.alloc (.cells #[x, y, z] t)).heap[w.heap.size]? = some (.cells #[x, y, z] t (0, 0)) := heap_alloc_new w _
  exact ⟨Bx3.new w x y z t, frozen_of_row _ _ 0 _ _ h, frozen_of_row _ _ 1 _ _ h, frozen_of_row _ _ 2 _ _ h⟩
theorem Bz.below {W W' : World} {g : Nat} {x y z : Value} (h : Bz W g x y z) (hb : Below W.heap.size W W') : Bz W' g x y z :=
  ⟨h.b.below hb, (hb.frozen (p := ⟨g, 0, none⟩) h.b.2.2.2).trans h.f0, (hb.frozen (p := ⟨g, 1, none⟩) h.b.2.2.2).trans h.f1, (hb.frozen (p := ⟨g, 2, none⟩) h.b.2.2.2).trans h.f2⟩
theorem Bz.drewN {W : World} {g : Nat} {x y z : Value} (h : Bz W g x y z) (n : Nat) : Bz (W.drewN n) g x y z := ⟨h.b.drewN n, h.f0, h.f1, h.f2⟩
theorem Bz.dr {W W' : World} {g : Nat} {x y z : Value} (h : Bz W g x y z) (hd : Dr W W') : Bz W' g x y z := by
  obtain ⟨n, rfl⟩ := hd
  exact h.drewN n
theorem Bz.s0 {W : World} {g : Nat} {x y z : Value} (h : Bz W g x y z) (u : Value) : Bz (W.setCell ⟨g, 0, none⟩ u) g u y z := by
  obtain ⟨⟨b0, b1, b2, b3⟩, h0, h1, h2⟩ := h
  exact ⟨⟨by simp [go_sem, b0], by simp [go_sem, b1], by simp [go_sem, b2], by simpa [World.size_setCell] using b3⟩, by simp [go_sem, h0], by simp [go_sem, h1], by simp [go_sem, h2]⟩
theorem Bz.s1 {W : World} {g : Nat} {x y z : Value} (h : Bz W g x y z) (u : Value) : Bz (W.setCell ⟨g, 1, none⟩ u) g x u z := by
  obtain ⟨⟨b0, b1, b2, b3⟩, h0, h1, h2⟩ := h
  exact ⟨⟨by simp [go_sem, b0], by simp [go_sem, b1], by simp [go_sem, b2], by simpa [World.size_setCell] using b3⟩, by simp [go_sem, h0], by simp [go_sem, h1], by simp [go_sem, h2]⟩
theorem Bz.s2 {W : World} {g : Nat} {x y z : Value} (h : Bz W g x y z) (u : Value) : Bz (W.setCell ⟨g, 2, none⟩ u) g x y u := by
  obtain ⟨⟨b0, b1, b2, b3⟩, h0, h1, h2⟩ := h
  exact ⟨⟨by simp [go_sem, b0], by simp [go_sem, b1], by simp [go_sem, b2], by simpa [World.size_setCell] using b3⟩, by simp [go_sem, h0], by simp [go_sem, h1], by simp [go_sem, h2]⟩
theorem Bz.below1 {W W' : World} {g r : Nat} {x y z : Value} (h : Bz W g x y z) (hg : W.grownBy W' (some r)) (hr : g ≠ r) : Bz W' g x y z := by
  have hk := hg.block g h.b.2.2.2 (by simp; omega)
  exact ⟨h.b.grown hg hr, (World.frozen?_of_block (a := ⟨g, 0, none⟩) hk).trans h.f0, (World.frozen?_of_block (a := ⟨g, 1, none⟩) hk).trans h.f1, (World.frozen?_of_block (a := ⟨g, 2, none⟩) hk).trans h.f2⟩
theorem len_app (l : List Int) (y : Int) : (((l ++ [y]).length : Nat) : Int) = (l.length : Int) + 1 := by simp
set_option maxRecDepth 20000 in
set_option maxHeartbeats 2000000 in
theorem l6Sides_c (A1 : Option Addr) (P : List Int) (c1 : Nat) (A2 : Option Addr) (n2 c2 : Nat) (A3 : Option Addr) (F : List Int) (c3 : Nat) (x : Nat) (w : World) (h1 : Rd w A1 (ints P)) (h3 : Rd w A3 (ints F)) (hp : ParOk P) (hn : P.length ≤ 24) (hF : F.length = P.length) (hx : x < P.length) :
    Calls Try.prog 78 #[mkV A1 P.length c1 A2 n2 c2 A3 F.length c3, .int .i64 (x : Int)] w (Quietly w (.agg #[.int .i64 ((lessL P F x).length : Int), .int .i64 ((sameL P F x).length : Int), .int .i64 ((moreL P F x).length : Int)])) := by
  have HF := Lib.hid hF
  have HB1 : Below w.heap.size w ((w.alloc (.cells #[.slice A1 P.length c1, .slice A2 n2 c2, .slice A3 F.length c3] 28)).alloc (.cells #[.int .i64 0, .int .i64 0, .int .i64 0] 90)) := ((Below.refl _ _).alloc (Nat.le_refl _) _).alloc (by simp) _
  have bx := (Bx3.new w (.slice A1 P.length c1) (.slice A2 n2 c2) (.slice A3 F.length c3) 28).alloc (.cells #[.int .i64 0, .int .i64 0, .int .i64 0] 90)
  have br := Bz.new (w.alloc (.cells #[.slice A1 P.length c1, .slice A2 n2 c2, .slice A3 F.length c3] 28)) (.int .i64 0) (.int .i64 0) (.int .i64 0) 90
  rw [World.size_alloc] at br
  have hz : ((w.alloc (.cells #[.slice A1 P.length c1, .slice A2 n2 c2, .slice A3 F.length c3] 28)).alloc (.cells #[.int .i64 0, .int .i64 0, .int .i64 0] 90)).heap.size = w.heap.size + 2 := by simp
  clear hF
  go_enter Try.func78, Try.ntmps78
  go_upto_region 1 with fail
  generalize (w.alloc (.cells #[.slice A1 P.length c1, .slice A2 n2 c2, .slice A3 F.length c3] 28)).alloc (.cells #[.int .i64 0, .int .i64 0, .int .i64 0] 90) = v at *
  obtain ⟨f0, f1, f2, fz⟩ := id bx
  go_wp2_with fail
  refine (l2Kids_c A1 P c1 A2 n2 c2 x _ (h1.below HB1 (Nat.le_refl _)) hp hx hn).mono ?_
  rintro e w2 ⟨Ak, ck, rfl, ok, hb2⟩
  have HB2 := bUp HB1 hb2 HB1.size
  have bx3 := (bx.below hb2).alloc (.cells #[.int .i64 0, .int .i64 0, .int .i64 0] 90)
  have br3 := br.below (hb2.alloc hb2.size (.cells #[.int .i64 0, .int .i64 0, .int .i64 0] 90))
  have bz3 := Bz.new w2 (.int .i64 0) (.int .i64 0) (.int .i64 0) 90
  have ok3 := ok.alloc (.cells #[.int .i64 0, .int .i64 0, .int .i64 0] 90)
  have HB3 : Below w.heap.size w (w2.alloc (.cells #[.int .i64 0, .int .i64 0, .int .i64 0] 90)) := HB2.alloc HB2.size _
  have hkl := kidTo_len P (x : Int) P.length
  change (kids P (x : Int)).length ≤ _ at hkl
  have hz2 := hb2.size
  have hbase : w.heap.size + 2 ≤ w2.heap.size := by omega
  have hok : ∀ k, blk Ak = some k → k < w2.heap.size := ok.ltk
  clear f0 f1 f2 fz bx br ok hb2
  go_upto_region 2 with fail
  generalize w2.alloc (.cells #[.int .i64 0, .int .i64 0, .int .i64 0] 90) = v3 at *
  generalize w2.heap.size = gz at *
  go_wp2
  go_loopw [7] (fun i wr => ∃ k : Nat, k ≤ (kids P (x : Int)).length ∧ i = .int .i64 (k : Int) ∧
      Bz wr gz (.int .i64 ((lessTo P F x k).length : Int)) (.int .i64 ((sameTo P F x k).length : Int)) (.int .i64 ((moreTo P F x k).length : Int)) ∧ Own wr v.heap.size Ak ck (kids P (x : Int)) ∧
      Bx3 wr w.heap.size (.slice A1 P.length c1) (.slice A2 n2 c2) (.slice A3 F.length c3) ∧ Bz wr (w.heap.size + 1) (.int .i64 0) (.int .i64 0) (.int .i64 0) ∧ Below w.heap.size w wr) (fun i _ => (kids P (x : Int)).length - (intOf i).toNat)
  case atStart => exact ⟨0, by omega, rfl, bz3, ok3, bx3, br3, HB3⟩
  case round =>
    obtain ⟨wo, rfl⟩ : ∃ wo : World, wo = wr := ⟨_, rfl⟩
    obtain ⟨k, hk, rfl, hzz, pk, hxx, hrr, hB⟩ := hrel
    clear bz3 ok3 bx3 br3 HB3 HB2
    have hx' := hxx
    have hz' := hzz
    obtain ⟨f0, f1, f2, fz⟩ := hxx
    obtain ⟨⟨z0, z1, z2, zz⟩, y0, y1, y2⟩ := hzz
    by_cases hlt : k < (kids P (x : Int)).length
    · obtain ⟨j, hj, hjn⟩ := kid_nat hlt
      obtain ⟨ak, rfl, qk⟩ := pk.rd.intN hlt
      rw [hjn] at qk
      obtain ⟨a3, rfl, q3⟩ := (h3.below hB (Nat.le_refl _)).intN (k := j) (by have := HF.out; omega)
      obtain ⟨a3', he3, q3'⟩ := (h3.below hB (Nat.le_refl _)).intN (k := x) (by have := HF.out; omega)
      obtain rfl : a3 = a3' := by injection he3
      have i0 : (0 : Int) ≤ (j : Int) := by omega
      have i1 : (j : Int) < (F.length : Int) := by have := HF.out; omega
      have i2 : (x : Int) < (F.length : Int) := by have := HF.out; omega
      have i3 : (k : Int) < ((kids P (x : Int)).length : Int) := by omega
      have i4 : (0 : Int) ≤ (k : Int) := by omega
      have hl := side_len P F x k
      have hbz := hB.size
      have HJ := Lib.hid hjn
      have hjt : (nth (kids P (x : Int)) k).toNat = j := by rw [hjn]; rfl
      have HJT := Lib.hid hjt
      have hgk : gz ≠ ak.block := fun e => by have := hok ak.block rfl; omega
      clear hjn hjt he3
      have hwz : w.heap.size + 2 ≤ gz := hbase
      go_wp2
      refine wp_region_still_tail 8 (by kernel_rfl) (by kernel_rfl) ?_
      simp only [List.take_succ_cons, List.take_zero, List.drop_succ_cons, List.drop_zero]
      repeat still_step
      refine wpStill_nil ?_
      change wpList _ _ _ _ _ wo.drew
      by_cases hc : nth F j < nth F x
      · have HL := Lib.hid (less_yes (F := F) hlt (by rw [HJT.out]; omega))
        have HS := Lib.hid (same_no (F := F) hlt (by rw [HJT.out]; omega))
        have HM := Lib.hid (more_no (F := F) hlt (by rw [HJT.out]; omega))
        have hs := hz'.s0 (.int .i64 (((lessTo P F x k).length : Int) + 1))
        have hg : wo.grownBy _ (some gz) := grown_setCell wo ⟨gz, 0, none⟩ (.int .i64 (((lessTo P F x k).length : Int) + 1))
        have pk3 := pk.grown hg (.inr (by simp [blk]; exact fun e => hgk e.symm))
        have hx3 := hx'.grown hg (by omega)
        have hr3 := hrr.below1 hg (by omega)
        have hB3 := hB.grown hg hB.size (fun k hk => by cases hk; omega)
        clear hz' hx' hg qk
        go_wp2
        go_roundw
        case rel => exact ⟨k + 1, by omega, by go_num, by rw [HL.out, HS.out, HM.out]; first | exact hs.drewN 1 | (rw [len_app]; exact hs.drewN 1), pk3.drewN 1, hx3.drewN 1, hr3.drewN 1, bDrewN hB3 1⟩
        case measure => simp [intOf] <;> omega
      · by_cases hd : nth F x < nth F j
        · have HL := Lib.hid (less_no (F := F) hlt (by rw [HJT.out]; omega))
          have HS := Lib.hid (same_no (F := F) hlt (by rw [HJT.out]; omega))
          have HM := Lib.hid (more_yes (F := F) hlt (by rw [HJT.out]; omega))
          have hs := hz'.s2 (.int .i64 (((moreTo P F x k).length : Int) + 1))
          have hg : wo.grownBy _ (some gz) := grown_setCell wo ⟨gz, 2, none⟩ (.int .i64 (((moreTo P F x k).length : Int) + 1))
          have pk3 := pk.grown hg (.inr (by simp [blk]; exact fun e => hgk e.symm))
          have hx3 := hx'.grown hg (by omega)
          have hr3 := hrr.below1 hg (by omega)
          have hB3 := hB.grown hg hB.size (fun k hk => by cases hk; omega)
          clear hz' hx' hg qk
          go_wp2
          go_roundw
          case rel => exact ⟨k + 1, by omega, by go_num, by rw [HL.out, HS.out, HM.out]; first | exact hs.drewN 1 | (rw [len_app]; exact hs.drewN 1), pk3.drewN 1, hx3.drewN 1, hr3.drewN 1, bDrewN hB3 1⟩
          case measure => simp [intOf] <;> omega
        · have he : (nth F j == nth F x) = true := by simp; omega
          have HL := Lib.hid (less_no (F := F) hlt (by rw [HJT.out]; omega))
          have HS := Lib.hid (same_yes (F := F) hlt (by rw [HJT.out]; omega))
          have HM := Lib.hid (more_no (F := F) hlt (by rw [HJT.out]; omega))
          have hs := hz'.s1 (.int .i64 (((sameTo P F x k).length : Int) + 1))
          have hg : wo.grownBy _ (some gz) := grown_setCell wo ⟨gz, 1, none⟩ (.int .i64 (((sameTo P F x k).length : Int) + 1))
          have pk3 := pk.grown hg (.inr (by simp [blk]; exact fun e => hgk e.symm))
          have hx3 := hx'.grown hg (by omega)
          have hr3 := hrr.below1 hg (by omega)
          have hB3 := hB.grown hg hB.size (fun k hk => by cases hk; omega)
          clear hz' hx' hg qk
          go_wp2
          go_roundw
          case rel => exact ⟨k + 1, by omega, by go_num, by rw [HL.out, HS.out, HM.out]; first | exact hs.drewN 1 | (rw [len_app]; exact hs.drewN 1), pk3.drewN 1, hx3.drewN 1, hr3.drewN 1, bDrewN hB3 1⟩
          case measure => simp [intOf] <;> omega
    · have hkn : k = (kids P (x : Int)).length := by omega
      subst hkn
      have hB2 := hB
      obtain ⟨⟨r0, r1, r2, rz⟩, u0, u1, u2⟩ := hrr
      have hbz := hB.size
      clear hx' hz' f0 f1 f2 fz
      go_wp2_with fail
      refine bodyPost_ret (v := .agg #[.int .i64 ((lessTo P F x (kids P (x : Int)).length).length : Int), .int .i64 ((sameTo P F x (kids P (x : Int)).length).length : Int), .int .i64 ((moreTo P F x (kids P (x : Int)).length).length : Int)]) (by simp [results, Try.results78, go_sem, r0, r1, r2]) rfl ⟨rfl, ?_⟩
      with_reducible repeat (first | exact hB2 | refine Below.setCell ?_ (by simp <;> omega) _)
end Go.Proofs.Ytnhclpajfejnoaa
