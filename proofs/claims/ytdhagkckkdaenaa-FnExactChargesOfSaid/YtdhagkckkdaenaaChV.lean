/- ChargesOf: both packages' walks. (Written by gen_chv.py.) -/
import Derived.Test.YtdhagkckkdaenaaChW
namespace Go.Proofs.Ytdhagkckkdaenaa
open Go.RowKit

set_option maxRecDepth 20000 in
set_option maxHeartbeats 1000000 in
theorem specCg_c (A1 : Option Addr) (P : List Int) (c1 : Nat) (A2 : Option Addr) (W : List Int) (c2 : Nat) (A3 : Option Addr) (F : List Int) (c3 : Nat) (a b : Int) (w : World) (h : RdM w A1 P A2 W A3 F) :
    Calls Try.prog 23 #[mkV A1 P.length c1 A2 W.length c2 A3 F.length c3, .int .i64 a, .int .i64 b] w (GivesP w (cgV P W F a b) (ixB P W F a b)) := by
  have HB1 : Below w.heap.size w (w.alloc (.cells #[.slice A1 P.length c1, .slice A2 W.length c2, .slice A3 F.length c3] 33)) := (Below.refl _ _).alloc (Nat.le_refl _) _
  have bx := Bx3.new w (.slice A1 P.length c1) (.slice A2 W.length c2) (.slice A3 F.length c3) 33
  cases hq : (armB P W F && discB a b)
  · have HQ := Lib.hid (show ixB P W F a b = false from hq)
    rw [cgV_no HQ.out, HQ.out]
    go_enter Try.func23, Try.ntmps23
    go_wp2_with fail
    refine (l8One_is _ _ _ _ _ _ _ _ _ _ _ _ hq _ (h.below HB1 (Nat.le_refl _))).mono ?_
    rintro e w2 ⟨rfl, b2⟩
    have HB2 := bUp HB1 b2 HB1.size
    have O := (OwnP.lit0 w2).mono HB2.size
    go_wp2
    go_ret2
    exact ⟨_, _, rfl, O, HB2.alloc HB2.size _⟩
  · have hk := armAB_iff.1 hq
    have HQ := Lib.hid (show ixB P W F a b = true from hq)
    have HL := Lib.hid (cgL_len (P := P) (W := W) (F := F) (a := a) (b := b))
    rw [cgV_yes HQ.out, HQ.out]
    go_enter Try.func23, Try.ntmps23
    go_wp2_with fail
    refine (l8One_is _ _ _ _ _ _ _ _ _ _ _ _ hq _ (h.below HB1 (Nat.le_refl _))).mono ?_
    rintro e w2 ⟨rfl, b2⟩
    have HB2 := bUp HB1 b2 HB1.size
    obtain ⟨f0, f1, f2, fz⟩ := bx.below b2
    clear bx b2 HB1
    go_wp2_with fail
    refine (l8Charges_c A1 P c1 A2 W c2 A3 F c3 a b hk _ (h.below HB2 (Nat.le_refl _))).mono ?_
    rintro e w3 ⟨g, c, rfl, o, b3⟩
    go_wp2
    go_ret2
    exact ⟨_, _, by rw [HL.out] <;> rfl, o.mono HB2.size, bUp HB2 b3 HB2.size⟩
/-- The state while charges are gathered. -/
structure ChR (w wr : World) (x y z : Value) (gi ci ge ce : Nat) (ix : List (Int × Int)) (es : List Bool) (A : Option Addr) (c : Nat) (us : List (Int × Int)) : Prop where
  bx : Bx3 wr w.heap.size x y z
  ix : OwnP wr (w.heap.size + 1) (some ⟨gi, 0, none⟩) ci ix
  ed : OwnB wr (w.heap.size + 1) (some ⟨ge, 0, none⟩) ce es
  ot : OwnP wr (w.heap.size + 1) A c us
  ni : blk A ≠ some gi
  ne : blk A ≠ some ge
  hb : Below w.heap.size w wr
section
variable {w wr wr' : World} {x y z : Value} {gi ci ge ce c : Nat} {ix us : List (Int × Int)} {es : List Bool} {A : Option Addr}
theorem ChR.below (h : ChR w wr x y z gi ci ge ce ix es A c us) (b : Below wr.heap.size wr wr') : ChR w wr' x y z gi ci ge ce ix es A c us :=
  ⟨h.bx.below b, h.ix.below b, h.ed.below b, h.ot.below b, h.ni, h.ne, bUp h.hb b h.hb.size⟩
/-- Nothing but block g has turned, which is none of these. -/
theorem ChR.grown {g : Nat} (h : ChR w wr x y z gi ci ge ce ix es A c us) (hg : wr.grownBy wr' (some g)) (h1 : w.heap.size < g) (h2 : g ≠ gi) (h3 : g ≠ ge) (h4 : blk A ≠ some g) : ChR w wr' x y z gi ci ge ce ix es A c us :=
  ⟨h.bx.grown hg (by omega), h.ix.grown hg (.inr (by simp only [blk, Option.map_some, ne_eq, Option.some.injEq]; omega)), h.ed.grown hg (.inr (by simp only [blk, Option.map_some, ne_eq, Option.some.injEq]; omega)), h.ot.grown hg (.inr h4), h.ni, h.ne, h.hb.grown hg h.hb.size (fun k hk => by injection hk with hk; omega)⟩
theorem ChR.app {g2 c2 : Nat} {q : Int × Int} (h : ChR w wr x y z gi ci ge ce ix es A c us) (hg : wr.grownBy wr' (blk A)) (o : OwnP wr' (w.heap.size + 1) (some ⟨g2, 0, none⟩) c2 (us ++ [q])) (hb : some g2 = blk A ∨ g2 = wr.heap.size) : ChR w wr' x y z gi ci ge ce ix es (some ⟨g2, 0, none⟩) c2 (us ++ [q]) := by
  have li := (h.ix.ltk gi rfl)
  have le := (h.ed.ltk ge rfl).2
  have n1 : blk (some (⟨g2, 0, none⟩ : Addr)) ≠ some gi := by
    rcases hb with h1 | h1
    · show some g2 ≠ _
      rw [h1]; exact h.ni
    · simp only [blk, Option.map_some, ne_eq, Option.some.injEq]; omega
  have n2 : blk (some (⟨g2, 0, none⟩ : Addr)) ≠ some ge := by
    rcases hb with h1 | h1
    · show some g2 ≠ _
      rw [h1]; exact h.ne
    · simp only [blk, Option.map_some, ne_eq, Option.some.injEq]; omega
  exact ⟨h.bx.grownR hg (fun e => by have := h.ot.ge _ e; omega), h.ix.grown hg (.inr (fun e => h.ni e.symm)), h.ed.grown hg (.inr (fun e => h.ne e.symm)), o, n1, n2, h.hb.grown hg h.hb.size (fun k hk => by have := h.ot.ge k hk; omega)⟩
end
theorem lit_src (w : World) (p q : Int) : ∀ j u, (pcells [(p, q)])[j]? = some u → (w.alloc (.cells #[.int .i64 p, .int .i64 q] 28)).cell? ((⟨w.heap.size, 0, none⟩ : Addr).add j) = some u := by
  have := (OwnP.lit w [(p, q)] (by simp)).src
  simpa [pcells] using this
set_option maxRecDepth 20000 in
set_option maxHeartbeats 2000000 in
theorem implCg_c (A1 : Option Addr) (P : List Int) (c1 : Nat) (A2 : Option Addr) (W : List Int) (c2 : Nat) (A3 : Option Addr) (F : List Int) (c3 : Nat) (a b : Int) (w : World) (h : RdM w A1 P A2 W A3 F) :
    Calls Try.prog 24 #[mkV A1 P.length c1 A2 W.length c2 A3 F.length c3, .int .i64 a, .int .i64 b] w (GivesP w (cgV P W F a b) (ixB P W F a b)) := by
  have HB1 : Below w.heap.size w (w.alloc (.cells #[.slice A1 P.length c1, .slice A2 W.length c2, .slice A3 F.length c3] 33)) := (Below.refl _ _).alloc (Nat.le_refl _) _
  have bx := Bx3.new w (.slice A1 P.length c1) (.slice A2 W.length c2) (.slice A3 F.length c3) 33
  cases hq : ixB P W F a b
  · have HQ := Lib.hid hq
    have HV := Lib.hid (ixV_no hq)
    rw [cgV_no HQ.out]
    clear hq
    go_enter Try.func24, Try.ntmps24
    go_wp2_with fail
    refine (implIx_c A1 P c1 A2 W c2 A3 F c3 a b _ (h.below HB1 (Nat.le_refl _))).mono ?_
    rintro e w2 ⟨Ai, ci, rfl, oi, b2⟩
    rw [HQ.out]
    go_wp2
    go_ret2
    exact ⟨none, 0, rfl, OwnP.nil _ _, bUp HB1 b2 HB1.size⟩
  have hk := armAB_iff.1 (show (armB P W F && discB a b) = true from hq)
  have HQ := Lib.hid hq
  have HV := Lib.hid (ixV_yes hq)
  have hok := hk.arm
  have hn1 := hok.tree.n1
  have hn2 := hok.tree.n2
  have hn9 := hok.n9
  have hpar := hok.tree.par
  have HFR := Lib.hid (fun z (hz : z < P.length) => frP_iff.1 (idx_fr hk hz))
  rw [cgV_yes HQ.out]
  clear hq
  have HIL := Lib.hid (ixL_len (P := P) (W := W) (F := F) (a := a) (b := b))
  go_enter Try.func24, Try.ntmps24
  go_wp2_with fail
  refine (implIx_c A1 P c1 A2 W c2 A3 F c3 a b _ (h.below HB1 (Nat.le_refl _))).mono ?_
  rintro e w2 ⟨Ai, ci, rfl, oi, b2⟩
  rw [HV.out] at oi
  rw [HV.out, HIL.out, HQ.out]
  obtain ⟨gi, rfl, hgi1, hgi2⟩ := oi.form (by rw [HIL.out]; omega)
  have bx2 := bx.below b2
  have HB2 := bUp HB1 b2 HB1.size
  have sz2 : w.heap.size + 1 ≤ w2.heap.size := bx2.2.2.2
  have oi2 : OwnP w2 (w.heap.size + 1) (some ⟨gi, 0, none⟩) ci (ixL P W F a b) := oi.mono (by simp)
  have OO := OwnP.lit0 w2
  have oi3 := oi2.alloc (.cells #[] 28)
  have bx3 := bx2.alloc (.cells #[] 28)
  have HB3 := HB2.alloc HB2.size (.cells #[] 28)
  obtain ⟨f0, f1, f2, fz⟩ := id bx2
  clear bx b2 HB1 oi
  go_wp2_with fail
  refine (isEnd_c A1 P c1 A2 W.length c2 _ (h.below HB3 (Nat.le_refl _)).r1 hpar hn1 hn2).mono ?_
  rintro e w4 ⟨ge, ce, rfl, oe, b4⟩
  have hge := (oe.ltk ge rfl).1
  simp only [World.size_alloc] at hge
  have R0 := ChR.mk (w := w) (bx3.below b4) (oi3.below b4) (oe.mono (by simp; omega)) ((OO.mono sz2).below b4) (by simp only [blk, Option.map_some, ne_eq, Option.some.injEq]; omega) (by simp only [blk, Option.map_some, ne_eq, Option.some.injEq]; omega) (bUp HB3 b4 HB3.size)
  clear f0 f1 f2 fz oi2 oi3 OO bx2 bx3 HB2 HB3 b4 oe hge hgi1 hgi2 sz2
  go_wp2
  go_loopw [10, 31] (fun t i wr => ∃ (k : Nat) (A : Option Addr) (c : Nat), k ≤ P.length ∧ i = .int .i64 (k : Int) ∧ t = .slice A k c ∧ ChR w wr (.slice A1 P.length c1) (.slice A2 W.length c2) (.slice A3 F.length c3) gi ci ge ce (ixL P W F a b) (endsB P) A c (cgU P W F a b k)) (fun _ i _ => P.length - (intOf i).toNat)
  case atStart => exact ⟨0, _, _, Nat.zero_le _, rfl, rfl, R0⟩
  case round =>
    clear R0
    obtain ⟨k, A, c, hkl, rfl, rfl, R⟩ := hrel
    obtain ⟨wo, rfl⟩ : ∃ wo : World, wo = wr := ⟨_, rfl⟩
    have HUL := Lib.hid (cgU_len (P := P) (W := W) (F := F) (a := a) (b := b) k)
    by_cases hlt : k < P.length
    · obtain ⟨f0, f1, f2, fz⟩ := id R.bx
      have ce0 := R.ed.cell (k := k) (by rw [endsB_length]; exact hlt)
      rw [endsB_nth hlt] at ce0
      have HS := Lib.hid (cgU_succ (P := P) (W := W) (F := F) (a := a) (b := b) k)
      have j0 : (0 : Int) ≤ (k : Int) := by omega
      have j1 : (k : Int) < (P.length : Int) := by omega
      cases he : endB P k
      · rw [he] at ce0
        have HE := Lib.hid he
        clear he
        obtain ⟨d0, d1⟩ := R.ix.cells (k := k) (by rw [HIL.out]; exact hlt)
        change wo.cell? ⟨gi, k * 2, none⟩ = some (.int .i64 (nP (ixL P W F a b) k).1) at d0
        change wo.cell? ⟨gi, k * 2 + 1, none⟩ = some (.int .i64 (nP (ixL P W F a b) k).2) at d1
        rw [ixL_nP hlt] at d0 d1
        have H5 : Below wo.heap.size wo (wo.alloc (.cells #[.int .i64 (idxP P W F a b k).1, .int .i64 (idxP P W F a b k).2] 28)) := (Below.refl _ _).alloc (Nat.le_refl _) _
        have R5 := R.below H5
        have bl := Bx.new wo (.int .i64 (idxP P W F a b k).1) (.int .i64 (idxP P W F a b k).2) 28
        have nl : blk A ≠ some wo.heap.size := fun e => by have := R.ot.ltk _ e; omega
        have gl1 := R.ix.ltk gi rfl
        have gl2 := (R.ed.ltk ge rfl).2
        go_wp2_with fail
        refine (way_c A1 P c1 A2 W.length c2 k _ (h.below R5.hb (Nat.le_refl _)).r1 hpar hlt hn2).mono ?_
        rintro e w6 ⟨Aw, cw, s, rfl, os, hms, hsl, b6⟩
        have R6 := R5.below b6
        have bl6 := bl.below b6
        have HMS := Lib.hid hms
        have hsk : ∀ j, j < s.length → ∃ u : Nat, nth s j = (u : Int) ∧ u < P.length := fun j hj => by
          have hm := List.getElem_mem hj
          rw [← nth_eq hj] at hm
          obtain ⟨u, h1, h2⟩ := (hms _).1 hm
          exact ⟨u, h2, by have := rch_le h1; omega⟩
        have HSK := Lib.hid hsk
        have szo : wo.heap.size < w6.heap.size := bl6.2.2.2.2
        have nw : blk Aw ≠ some wo.heap.size := fun e => by have := os.ge _ e; simp at this; omega
        have os6 : Own w6 (w.heap.size + 1) Aw cw s := os.mono (by simp; omega)
        clear R R5 H5 b6 bl d0 d1 f0 f1 f2 ce0 hms hsk os
        go_wp2
        go_loopw [51] (fun i wr => ∃ m : Nat, m ≤ s.length ∧ i = .int .i64 (m : Int) ∧ ChR w wr (.slice A1 P.length c1) (.slice A2 W.length c2) (.slice A3 F.length c3) gi ci ge ce (ixL P W F a b) (endsB P) A c (cgU P W F a b k) ∧ Bx wr wo.heap.size (.int .i64 (ltTo P W F a b k s m).1) (.int .i64 (ltTo P W F a b k s m).2) ∧ Own wr (w.heap.size + 1) Aw cw s) (fun i _ => s.length - (intOf i).toNat)
        case atStart => exact ⟨0, Nat.zero_le _, rfl, R6, bl6, os6⟩
        case round =>
          clear R6 bl6 os6
          obtain ⟨m, hml, rfl, R, bl, os⟩ := hrel
          obtain ⟨v, rfl⟩ : ∃ v : World, v = wr := ⟨_, rfl⟩
          by_cases hlm : m < s.length
          · obtain ⟨gw, rfl, _, _⟩ := os.form (by omega)
            have cs := os.cellN hlm
            obtain ⟨u, eu, hul⟩ := HSK.out m hlm
            rw [eu] at cs
            obtain ⟨d0, d1⟩ := R.ix.cells (k := u) (by rw [HIL.out]; exact hul)
            change v.cell? ⟨gi, u * 2, none⟩ = some (.int .i64 (nP (ixL P W F a b) u).1) at d0
            change v.cell? ⟨gi, u * 2 + 1, none⟩ = some (.int .i64 (nP (ixL P W F a b) u).2) at d1
            rw [ixL_nP hul] at d0 d1
            have u0 : (0 : Int) ≤ (u : Int) := by omega
            have u1 : (u : Int) < (P.length : Int) := by omega
            have fu := HFR.out u hul
            have fl := frP_iff.1 (lt_fr hk (x := k) (s := s) hlt (fun j hj => by obtain ⟨u', e', h'⟩ := HSK.out j hj; omega) hml)
            have HLT : Hid (ltTo P W F a b k s (m + 1) = if betP false (idxP P W F a b u) (ltTo P W F a b k s m) = true then idxP P W F a b u else ltTo P W F a b k s m) := Lib.hid (by rw [ltTo, eu, Int.toNat_natCast])
            obtain ⟨l0, l1, l2, l3, l4⟩ := id bl
            have gl := R.ix.ltk gi rfl
            clear eu
            go_upto_region 14 with fail
            have hd1 : Below v.heap.size v v.drew := Below.drew (Below.refl _ _)
            have SK1 : Hid (∀ w', Below v.heap.size v w' → w'.cell? ⟨gi, u * 2, none⟩ = some (.int .i64 (idxP P W F a b u).1) ∧ w'.cell? ⟨gi, u * 2 + 1, none⟩ = some (.int .i64 (idxP P W F a b u).2) ∧ w'.cell? ⟨wo.heap.size, 0, none⟩ = some (.int .i64 (ltTo P W F a b k s m).1) ∧ w'.cell? ⟨wo.heap.size, 1, none⟩ = some (.int .i64 (ltTo P W F a b k s m).2)) := Lib.hid fun w' HV => ⟨(HV.cell (p := ⟨gi, u * 2, none⟩) gl).trans d0, (HV.cell (p := ⟨gi, u * 2 + 1, none⟩) gl).trans d1, (HV.cell (p := ⟨wo.heap.size, 0, none⟩) l4).trans l0, (HV.cell (p := ⟨wo.heap.size, 1, none⟩) l4).trans l1⟩
            clear d0 d1 l0 l1 l2 l3 cs
            have hS1_0 := SK1.out _ hd1
            refine tamed_region (S := fun w' => w'.cell? ⟨gi, u * 2, none⟩ = some (.int .i64 (idxP P W F a b u).1) ∧ w'.cell? ⟨gi, u * 2 + 1, none⟩ = some (.int .i64 (idxP P W F a b u).2) ∧ w'.cell? ⟨wo.heap.size, 0, none⟩ = some (.int .i64 (ltTo P W F a b k s m).1) ∧ w'.cell? ⟨wo.heap.size, 1, none⟩ = some (.int .i64 (ltTo P W F a b k s m).2)) (fun _ => false) (by kernel_rfl) ?_
            refine tame0 (k := 0) ?_ rfl (by kernel_rfl) (by kernel_rfl) (by kernel_rfl) (fun _ _ _ h => h) (by kernel_rfl) (fun v => ?_) ?_
            rotate_left
            · (go_simp; all_goals rfl)
            simp only [Act.put, List.setIfInBounds_toArray]
            refine tame0 (k := 1) ?_ rfl (by kernel_rfl) (by kernel_rfl) (by kernel_rfl) (fun _ _ _ h => h) (by kernel_rfl) (fun v => ?_) ?_
            rotate_left
            · (go_simp; all_goals rfl)
            simp only [Act.put]
            refine tame0 (k := 2) ?_ rfl (by kernel_rfl) (by kernel_rfl) (by kernel_rfl) (fun _ _ _ h => h) (by kernel_rfl) (fun v => ?_) ?_
            rotate_left
            · (go_simp; all_goals rfl)
            simp only [Act.put]
            refine tame (k := 3) ?_ rfl (by kernel_rfl) (by kernel_rfl) (by kernel_rfl) (by kernel_rfl) (fun _ _ _ h => h) (by kernel_rfl) hS1_0 (fun v hv => ?_) ?_
            rotate_left
            · (obtain ⟨k1, k2, k3, k4⟩ := hv; go_simp; all_goals rfl)
            simp only [Act.put]
            refine tame (k := 4) ?_ rfl (by kernel_rfl) (by kernel_rfl) (by kernel_rfl) (by kernel_rfl) (fun _ _ _ h => h) (by kernel_rfl) hS1_0 (fun v hv => ?_) ?_
            rotate_left
            · (obtain ⟨k1, k2, k3, k4⟩ := hv; go_simp; all_goals rfl)
            simp only [Act.put]
            refine tame_one (k := 5) (by kernel_rfl) rfl (by kernel_rfl) ?_
            go_simp
            refine (compared_c _ _ _ _ (by omega) (by omega) (by omega) (by omega) _).mono ?_
            rintro e w8 ⟨rfl, b8⟩
            have hd1_1 := bUp hd1 b8 (Nat.le_refl _)
            have hS1_1 := Lib.hid (SK1.out _ hd1_1)
            refine ⟨by first | exact hS1_1 | exact Hid.out hS1_1, ?_⟩
            have HC : Hid ((cmpI ((idxP P W F a b u).1, (idxP P W F a b u).2) ((ltTo P W F a b k s m).1, (ltTo P W F a b k s m).2) < 0) = (betP false (idxP P W F a b u) (ltTo P W F a b k s m) = true)) := Lib.hid cmp_low
            generalize cmpI ((idxP P W F a b u).1, (idxP P W F a b u).2) ((ltTo P W F a b k s m).1, (ltTo P W F a b k s m).2) = q at *
            refine tame_one (k := 6) (by kernel_rfl) rfl (by kernel_rfl) ?_
            go_simp
            refine ⟨by first | exact hS1_1 | exact Hid.out hS1_1, ?_⟩
            refine tame_end (by kernel_rfl) ?_
            have H8 := (Below.drew (Below.refl v.heap.size v)).trans b8
            have R8 := R.below H8
            have bl8 := bl.below H8
            have os8 := os.below H8
            clear R bl os SK1 hd1 hd1_1 hS1_0 hS1_1 b8 H8 fu fl
            by_cases hb : betP false (idxP P W F a b u) (ltTo P W F a b k s m) = true
            · have hq : q < 0 := by have := HC.out; rw [this]; exact hb
              have HN : Hid (ltTo P W F a b k s (m + 1) = ((idxP P W F a b u).1, (idxP P W F a b u).2)) := Lib.hid (by rw [HLT.out, if_pos hb])
              clear hb HC
              obtain ⟨d0, d1⟩ := R8.ix.cells (k := u) (by rw [HIL.out]; exact hul)
              change w8.cell? ⟨gi, u * 2, none⟩ = some (.int .i64 (nP (ixL P W F a b) u).1) at d0
              change w8.cell? ⟨gi, u * 2 + 1, none⟩ = some (.int .i64 (nP (ixL P W F a b) u).2) at d1
              rw [ixL_nP hul] at d0 d1
              obtain ⟨l0, l1, l2, l3, l5⟩ := id bl8
              have bl9 := bx_put bl8 (.int .i64 (idxP P W F a b u).1) (.int .i64 (idxP P W F a b u).2)
              have hg : w8.grownBy ((w8.setCell ⟨wo.heap.size, 0, none⟩ (.int .i64 (idxP P W F a b u).1)).setCell ⟨wo.heap.size, 1, none⟩ (.int .i64 (idxP P W F a b u).2)) (some wo.heap.size) := (grown_setCell w8 ⟨wo.heap.size, 0, none⟩ _).trans (grown_setCell _ ⟨wo.heap.size, 1, none⟩ _)
              have R9 := R8.grown hg fz (by omega) (by omega) nl
              have os9 := os8.grown hg (.inr nw)
              clear R8 bl8 os8 hg
              go_wp2
              go_roundw
              case rel => exact ⟨m + 1, by omega, by go_num, R9, by rw [HN.out]; exact bl9, os9⟩
              case measure => simp [intOf] <;> omega
            · have hq : ¬ q < 0 := by have := HC.out; rw [this]; exact hb
              have HN : Hid (ltTo P W F a b k s (m + 1) = ltTo P W F a b k s m) := Lib.hid (by rw [HLT.out, if_neg hb])
              clear hb HC
              go_wp2
              go_roundw
              case rel => exact ⟨m + 1, by omega, by go_num, R8, by rw [HN.out]; exact bl8, os8⟩
              case measure => simp [intOf] <;> omega
          · obtain rfl : m = s.length := by omega
            have HCX : Hid (cgX P W F a b k = ((ltTo P W F a b k s s.length).1, (ltTo P W F a b k s s.length).2)) := Lib.hid (cg_lt hk hlt HE.out HMS.out).symm
            obtain ⟨l0, l1, l2, l3, l4⟩ := id bl
            have SRC := Lib.hid (lit_src v (ltTo P W F a b k s s.length).1 (ltTo P W F a b k s s.length).2)
            have szv : w.heap.size + 1 ≤ v.heap.size := R.bx.2.2.2
            have R9 := R.below ((Below.refl _ _).alloc (Nat.le_refl _) (.cells #[.int .i64 (ltTo P W F a b k s s.length).1, .int .i64 (ltTo P W F a b k s s.length).2] 28))
            clear R bl os
            go_wp2_with (at_builtin; refine wp_append_pairs _ rfl _ _ rfl (w.heap.size + 1) A k c (cgU P W F a b k) rfl HUL.out.symm R9.ot ⟨v.heap.size, 0, none⟩ 1 1 [((ltTo P W F a b k s s.length).1, (ltTo P W F a b k s s.length).2)] rfl rfl SRC.out (by have := HUL.out; simp; omega) (by simp; omega) (by simp) ?_; intro g2 c2 w10 o10 hg10 hb10)
            have R10 := R9.app hg10 o10 hb10
            go_roundw
            case rel => exact ⟨k + 1, some ⟨g2, 0, none⟩, c2, by omega, by go_num, rfl, by rw [HS.out, HCX.out]; exact R10⟩
            case measure => simp [intOf] <;> omega

      · rw [he] at ce0
        have HCX : Hid (cgX P W F a b k = (0, 1)) := Lib.hid ((cgX_end he).trans (idx_end he))
        clear he
        have SRC := Lib.hid (lit_src wo 0 1)
        have szv : w.heap.size + 1 ≤ wo.heap.size := fz
        have R9 := R.below ((Below.refl _ _).alloc (Nat.le_refl _) (.cells #[.int .i64 0, .int .i64 1] 28))
        clear R
        go_wp2_with (at_builtin; refine wp_append_pairs _ rfl _ _ rfl (w.heap.size + 1) A k c (cgU P W F a b k) rfl HUL.out.symm R9.ot ⟨wo.heap.size, 0, none⟩ 1 1 [(0, 1)] rfl rfl SRC.out (by have := HUL.out; simp; omega) (by simp; omega) (by simp) ?_; intro g2 c2 w10 o10 hg10 hb10)
        have R10 := R9.app hg10 o10 hb10
        go_roundw
        case rel => exact ⟨k + 1, some ⟨g2, 0, none⟩, c2, by omega, by go_num, rfl, by rw [HS.out, HCX.out]; exact R10⟩
        case measure => simp [intOf] <;> omega

    · obtain rfl : k = P.length := by omega
      have HLL := Lib.hid (cgL_len (P := P) (W := W) (F := F) (a := a) (b := b))
      have ot := R.ot
      rw [cgU_all] at ot
      go_wp2
      go_ret2
      exact ⟨_, _, by rw [HLL.out] <;> rfl, ot.mono (by omega), R.hb⟩
end Go.Proofs.Ytdhagkckkdaenaa
