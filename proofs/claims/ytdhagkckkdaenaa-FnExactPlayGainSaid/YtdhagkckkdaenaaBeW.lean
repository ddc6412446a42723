/- The reference's search for an index: its walk. (Written by gen_bew.py.) -/
import Derived.Test.YtdhagkckkdaenaaIdxL
import Derived.Test.YtdhagkckkdaenaaPaW
import Derived.Test.YtdhagkckkdaenaaFracW
namespace Go.Proofs.Ytdhagkckkdaenaa
open Go.RowKit

set_option maxRecDepth 20000 in
set_option maxHeartbeats 1000000 in
theorem l2Under_c (A1 : Option Addr) (P : List Int) (c1 : Nat) (A2 : Option Addr) (n2 c2 : Nat) (x y : Nat) (w : World) (h1 : Rd w A1 (ints P)) (hp : ParOk P) (hy : y < P.length) (hx : x < P.length) :
    Calls Try.prog 84 #[trV A1 P.length c1 A2 n2 c2, .int .i64 (x : Int), .int .i64 (y : Int)] w (Quietly w (.bool (undB P x y))) := by
  have HB1 : Below w.heap.size w (w.alloc (.cells #[.slice A1 P.length c1, .slice A2 n2 c2] 31)) := (Below.refl _ _).alloc (Nat.le_refl _) _
  obtain ⟨f0, f1, f2, f3, f4⟩ := Bx.new w (.slice A1 P.length c1) (.slice A2 n2 c2) 31
  have h1' := h1.below HB1 (Nat.le_refl _)
  go_enter Try.func84, Try.ntmps84
  go_wp2
  generalize w.alloc (.cells #[.slice A1 P.length c1, .slice A2 n2 c2] 31) = v at *
  go_loop [2] (fun t => ∃ u : Nat, u < P.length ∧ t = .int .i64 (u : Int) ∧ undB P x u = undB P x y) (fun t => (intOf t).toNat)
  case atStart => exact ⟨y, hy, rfl, rfl⟩
  case round =>
    obtain ⟨u, hu, rfl, he⟩ := hrel
    by_cases hxu : x < u
    · obtain ⟨p, hpu, hlt⟩ := par_of hp hxu hu
      obtain ⟨a1, rfl, q1⟩ := h1'.intN (k := u) hu
      rw [hpu] at q1
      have HE : Hid (undB P x p = undB P x y) := Lib.hid (by
        rw [← he]
        unfold undB
        rw [rch_step hpu hlt hxu]
        rfl)
      have i1 : (x : Int) < (u : Int) := by omega
      clear he hpu
      go_wp2
      go_round
      case rel => exact ⟨p, by omega, rfl, HE.out⟩
      case measure => simp [intOf] <;> omega
    · have HE := Lib.hid he
      clear he
      by_cases hux : u = x
      · subst hux
        have HT : Hid (undB P u y = true) := Lib.hid (by rw [← HE.out]; exact rch_self)
        go_wp2
        go_ret
        exact ⟨by rw [HT.out] <;> rfl, HB1⟩
      · have HT : Hid (undB P x y = false) := Lib.hid (by rw [← HE.out]; exact rch_low (by omega))
        have e1 : ((u : Int) == (x : Int)) = false := by simp; omega
        clear hux
        go_wp2
        go_ret
        exact ⟨by rw [HT.out] <;> rfl, HB1⟩
/-- The state of the search. -/
structure BeR (w wr : World) (x y z : Value) (f : Int × Int) : Prop where
  bx : Bx3 wr w.heap.size x y z
  br : Bx wr (w.heap.size + 1) (.int .i64 0) (.int .i64 0)
  bb : Bx wr (w.heap.size + 2) (.int .i64 f.1) (.int .i64 f.2)
  hb : Below w.heap.size w wr
section
variable {w wr wr' : World} {x y z : Value} {f : Int × Int}
theorem BeR.below (h : BeR w wr x y z f) (b : Below wr.heap.size wr wr') : BeR w wr' x y z f := ⟨h.bx.below b, h.br.below b, h.bb.below b, bUp h.hb b h.hb.size⟩
theorem BeR.grown {g : Nat} (h : BeR w wr x y z f) (hg : wr.grownBy wr' (some g)) (hn : w.heap.size + 2 < g) : BeR w wr' x y z f :=
  ⟨h.bx.grown hg (by omega), h.br.grown hg (by simp; omega), h.bb.grown hg (by simp; omega), h.hb.grown hg h.hb.size (fun k hk => by injection hk with hk; omega)⟩
theorem BeR.set (h : BeR w wr x y z f) (s t : Int) : BeR w ((wr.setCell ⟨w.heap.size + 2, 0, none⟩ (.int .i64 s)).setCell ⟨w.heap.size + 2, 1, none⟩ (.int .i64 t)) x y z (s, t) := by
  have hg : wr.grownBy ((wr.setCell ⟨w.heap.size + 2, 0, none⟩ (.int .i64 s)).setCell ⟨w.heap.size + 2, 1, none⟩ (.int .i64 t)) (some (w.heap.size + 2)) := (grown_setCell wr ⟨w.heap.size + 2, 0, none⟩ _).trans (grown_setCell _ ⟨w.heap.size + 2, 1, none⟩ _)
  exact ⟨h.bx.grown hg (by omega), h.br.grown hg (by simp), by simpa using bx_put h.bb (.int .i64 s) (.int .i64 t), h.hb.grown hg h.hb.size (fun k hk => by injection hk with hk; omega)⟩
end
theorem wt_end {P W F : List Int} (h : ArmOk P W F) {y : Nat} (hy : y < P.length) (he : endB P y = true) : 0 < nth W y := by
  have := h.tree.wt y hy
  rw [if_pos he] at this
  omega
theorem wt_in {P W F : List Int} (h : ArmOk P W F) {y : Nat} (hy : y < P.length) (he : endB P y = false) : ¬ 0 < nth W y := by
  have := h.tree.wt y hy
  rw [if_neg (by rw [he]; simp)] at this
  omega
set_option maxRecDepth 20000 in
set_option maxHeartbeats 4000000 in
theorem l8Best_c (A1 : Option Addr) (P : List Int) (c1 : Nat) (A2 : Option Addr) (W : List Int) (c2 : Nat) (A3 : Option Addr) (F : List Int) (c3 : Nat) (a b : Int) (hk : ArmAB P W F a b) (gf cf Bf : Nat) (ps : List (Int × Int)) (x : Nat) (w : World) (h : RdM w A1 P A2 W A3 F) (hx : x < P.length) (hex : endB P x = false) (ho : OwnP w Bf (some ⟨gf, 0, none⟩) cf ps) (hpl : ps.length = P.length) (hps : ∀ z, x < z → z < P.length → endB P z = false → nP ps z = idxP P W F a b z) :
    Calls Try.prog 76 #[mkV A1 P.length c1 A2 W.length c2 A3 F.length c3, .int .i64 a, .int .i64 b, .slice (some ⟨gf, 0, none⟩) P.length cf, .int .i64 (x : Int)] w (Quietly w (.agg #[.int .i64 (idxP P W F a b x).1, .int .i64 (idxP P W F a b x).2])) := by
  have HPS := Lib.hid hps
  have HPL := Lib.hid hpl
  have HEX := Lib.hid hex
  have hok := hk.arm
  have hn1 := hok.tree.n1
  have hn2 := hok.tree.n2
  have hn9 := hok.n9
  have hpar := hok.tree.par
  have HFL := Lib.hid hok.len
  have HWL := Lib.hid hok.tree.len
  have HFR := Lib.hid (fun z (hz : z < P.length) => frP_iff.1 (idx_fr hk hz))
  clear hps hpl hex
  obtain ⟨a3, rfl, q3⟩ := h.r3.intN (k := x) (by rw [HFL.out]; exact hx)
  obtain ⟨a2, rfl, _⟩ := h.r2.intN (k := x) (by rw [HWL.out]; exact hx)
  have HB1 : Below w.heap.size w ((w.alloc (.cells #[.slice A1 P.length c1, .slice (some a2) W.length c2, .slice (some a3) F.length c3] 33)).alloc (.cells #[.int .i64 0, .int .i64 0] 28)) := ((Below.refl _ _).alloc (Nat.le_refl _) _).alloc (by simp) _
  have bx := (Bx3.new w (.slice A1 P.length c1) (.slice (some a2) W.length c2) (.slice (some a3) F.length c3) 33).alloc (.cells #[.int .i64 0, .int .i64 0] 28)
  have br := Bx.new (w.alloc (.cells #[.slice A1 P.length c1, .slice (some a2) W.length c2, .slice (some a3) F.length c3] 33)) (.int .i64 0) (.int .i64 0) 28
  simp only [World.size_alloc] at br
  have i2 : (x : Int) < (F.length : Int) := by rw [HFL.out]; omega
  have i3 : x < F.length := by omega
  have q31 := (HB1.cell (cell_lt q3)).trans q3
  have bb := Bx.new ((w.alloc (.cells #[.slice A1 P.length c1, .slice (some a2) W.length c2, .slice (some a3) F.length c3] 33)).alloc (.cells #[.int .i64 0, .int .i64 0] 28)) (.int .i64 (nth F x)) (.int .i64 1) 28
  simp only [World.size_alloc] at bb
  have R0 := BeR.mk (w := w) (f := (nth F x, 1)) (bx.alloc (.cells #[.int .i64 (nth F x), .int .i64 1] 28)) (br.alloc (.cells #[.int .i64 (nth F x), .int .i64 1] 28)) bb (HB1.alloc HB1.size _)
  obtain ⟨f0, f1, f2, fz⟩ := id bx
  rw [← rfB_start (P := P) (W := W) (a := a) (b := b) (f := nP ps)] at R0
  have R0 := Lib.hid R0
  clear bx br bb
  go_enter Try.func76, Try.ntmps76
  go_wp2_with fail
  clear f0 f1 f2 fz q31 q3
  go_loopw [12] (fun t wr => ∃ y : Nat, x + 1 ≤ y ∧ y ≤ P.length ∧ t = .int .i64 (y : Int) ∧ BeR w wr (.slice A1 P.length c1) (.slice (some a2) W.length c2) (.slice (some a3) F.length c3) (rfB P W F a b (nP ps) x y)) (fun t _ => P.length - (intOf t).toNat)
  case atStart => exact ⟨x + 1, Nat.le_refl _, by omega, by go_num, R0.out⟩
  case round =>
    clear R0
    obtain ⟨y, hy1, hy2, rfl, R⟩ := hrel
    obtain ⟨wo, rfl⟩ : ∃ wo : World, wo = wr := ⟨_, rfl⟩
    obtain ⟨f0, f1, f2, fz⟩ := id R.bx
    by_cases hlt : y < P.length
    · have hxy : x < y := by omega
      go_wp2_with fail
      refine (l2Under_c A1 P c1 (some a2) W.length c2 x y _ (h.below R.hb (Nat.le_refl _)).r1 hpar hlt hx).mono ?_
      rintro e w3 ⟨rfl, b3⟩
      have R3 := R.below b3
      clear R f0 f1 f2 fz b3
      obtain ⟨f0, f1, f2, fz⟩ := id R3.bx
      cases hu : undB P x y
      · have HS := Lib.hid (rfB_no1 (W := W) (F := F) (a := a) (b := b) (f := nP ps) hu)
        clear hu
        go_wp2
        go_roundw
        case rel => exact ⟨y + 1, by omega, by omega, by go_num, by rw [HS.out]; exact R3⟩
        case measure => simp [intOf] <;> omega
      · obtain ⟨aq, eq, q2⟩ := (h.below R3.hb (Nat.le_refl _)).r2.intN (k := y) (by rw [HWL.out]; exact hlt)
        injection eq with eq
        subst eq
        have k1 : (y : Int) < (W.length : Int) := by rw [HWL.out]; omega
        have k2 : y < W.length := by omega
        cases hey : endB P y
        · have hwy := wt_in hok hlt hey
          have HS := Lib.hid (rfB_yes (W := W) (F := F) (a := a) (b := b) (f := nP ps) hxy hu hey)
          have HFY : Hid (nP ps y = idxP P W F a b y) := Lib.hid (HPS.out y hxy hlt hey)
          have HEY := Lib.hid hey
          clear hu hey
          go_wp2_with (at_make; refine wp_make_bools _ w3.heap.size rfl rfl _ _ rfl _ _ _ _ P.length rfl rfl rfl rfl (by omega) ?_; intro w4 ob b4)
          have R4 := R3.below b4
          have szz : w.heap.size + 2 < w3.heap.size := R3.bb.2.2.2.2
          have ob0 : OwnB w4 w3.heap.size (some ⟨w3.heap.size, 0, none⟩) P.length (inM P (nP ps) x y (x + 1)) := by rw [inM_start]; exact ob
          clear R3 f0 f1 f2 fz b4 q2 ob
          go_loopw [14] (fun t wr => ∃ z : Nat, x + 1 ≤ z ∧ z ≤ P.length ∧ t = .int .i64 (z : Int) ∧ OwnB wr w3.heap.size (some ⟨w3.heap.size, 0, none⟩) P.length (inM P (nP ps) x y z) ∧ BeR w wr (.slice A1 P.length c1) (.slice (some a2) W.length c2) (.slice (some a3) F.length c3) (rfB P W F a b (nP ps) x y)) (fun t _ => P.length - (intOf t).toNat)
          case atStart => exact ⟨x + 1, Nat.le_refl _, by omega, by go_num, ob0, R4⟩
          case round =>
            clear ob0 R4
            obtain ⟨z, hz1, hz2, rfl, ob, R⟩ := hrel
            obtain ⟨v, rfl⟩ : ∃ v : World, v = wr := ⟨_, rfl⟩
            obtain ⟨f0, f1, f2, fz⟩ := id R.bx
            by_cases hlz : z < P.length
            · have hxz : x < z := by omega
              obtain ⟨aq, eq, q2⟩ := (h.below R.hb (Nat.le_refl _)).r2.intN (k := z) (by rw [HWL.out]; exact hlz)
              injection eq with eq
              subst eq
              have k1 : (z : Int) < (W.length : Int) := by rw [HWL.out]; omega
              have k0 : (0 : Int) ≤ (z : Int) := by omega
              have k3 : (z : Int) < (P.length : Int) := by omega
              have k4 : (y : Int) < (P.length : Int) := by omega
              have k5 : (0 : Int) ≤ (y : Int) := by omega
              have HST := Lib.hid (inM_step (P := P) (f := nP ps) (x := x) (y := y) (z := z))
              cases hez : endB P z
              · have e1 := neB_wt hok hlz hez
                have HIY := Lib.hid (inY_in (f := nP ps) (y := y) hxz hez)
                have ob1 := ho.below R.hb
                obtain ⟨cz0, cz1⟩ := ob1.cells (k := z) (by rw [HPL.out]; exact hlz)
                obtain ⟨cy0, cy1⟩ := ob1.cells (k := y) (by rw [HPL.out]; exact hlt)
                have HFZ := HPS.out z hxz hlz hez
                change v.cell? ⟨gf, z * 2, none⟩ = some (.int .i64 (nP ps z).1) at cz0
                change v.cell? ⟨gf, z * 2 + 1, none⟩ = some (.int .i64 (nP ps z).2) at cz1
                change v.cell? ⟨gf, y * 2, none⟩ = some (.int .i64 (nP ps y).1) at cy0
                change v.cell? ⟨gf, y * 2 + 1, none⟩ = some (.int .i64 (nP ps y).2) at cy1
                rw [HFZ] at cz0 cz1
                rw [HFY.out] at cy0 cy1
                rw [HFZ, HFY.out] at HIY
                have g1 := HFR.out z hlz
                have g2 := HFR.out y hlt
                have gl := ob1.ltk gf rfl
                obtain ⟨Q, hQ⟩ : ∃ Q, Q = lessP (idxP P W F a b z) (idxP P W F a b y) := ⟨_, rfl⟩
                rw [← hQ] at HIY
                have HQ := Lib.hid hQ.symm
                clear hQ
                clear hez ob1 HFZ
                go_upto_region 10 with fail
                have hd1 : Below v.heap.size v v.drew := Below.drew (Below.refl _ _)
                have SK1 : Hid (∀ w', Below v.heap.size v w' → w'.cell? ⟨w.heap.size, 0, none⟩ = some (.slice A1 P.length c1) ∧ w'.cell? ⟨w.heap.size, 1, none⟩ = some (.slice (some a2) W.length c2) ∧ w'.cell? (a2.add z) = some (.int .i64 (nth W z)) ∧ w'.cell? ⟨gf, z * 2, none⟩ = some (.int .i64 (idxP P W F a b z).1) ∧ w'.cell? ⟨gf, z * 2 + 1, none⟩ = some (.int .i64 (idxP P W F a b z).2) ∧ w'.cell? ⟨gf, y * 2, none⟩ = some (.int .i64 (idxP P W F a b y).1) ∧ w'.cell? ⟨gf, y * 2 + 1, none⟩ = some (.int .i64 (idxP P W F a b y).2)) := Lib.hid fun w' HV => ⟨(HV.cell (p := ⟨w.heap.size, 0, none⟩) fz).trans f0, (HV.cell (p := ⟨w.heap.size, 1, none⟩) fz).trans f1, (HV.cell (cell_lt q2)).trans q2, (HV.cell (p := ⟨gf, z * 2, none⟩) gl).trans cz0, (HV.cell (p := ⟨gf, z * 2 + 1, none⟩) gl).trans cz1, (HV.cell (p := ⟨gf, y * 2, none⟩) gl).trans cy0, (HV.cell (p := ⟨gf, y * 2 + 1, none⟩) gl).trans cy1⟩
                clear f0 f1 q2 cz0 cz1 cy0 cy1
                have hS1_0 := SK1.out _ hd1
                refine tamed_region (S := fun w' => w'.cell? ⟨w.heap.size, 0, none⟩ = some (.slice A1 P.length c1) ∧ w'.cell? ⟨w.heap.size, 1, none⟩ = some (.slice (some a2) W.length c2) ∧ w'.cell? (a2.add z) = some (.int .i64 (nth W z)) ∧ w'.cell? ⟨gf, z * 2, none⟩ = some (.int .i64 (idxP P W F a b z).1) ∧ w'.cell? ⟨gf, z * 2 + 1, none⟩ = some (.int .i64 (idxP P W F a b z).2) ∧ w'.cell? ⟨gf, y * 2, none⟩ = some (.int .i64 (idxP P W F a b y).1) ∧ w'.cell? ⟨gf, y * 2 + 1, none⟩ = some (.int .i64 (idxP P W F a b y).2)) (fun k => k == 22) (by kernel_rfl) ?_
                refine tame0 (k := 0) ?_ rfl (by kernel_rfl) (by kernel_rfl) (by kernel_rfl) (fun _ _ _ h => h) (by kernel_rfl) (fun v => ?_) ?_
                rotate_left
                · (go_simp; all_goals rfl)
                simp only [Act.put, List.setIfInBounds_toArray]
                refine tame0 (k := 1) ?_ rfl (by kernel_rfl) (by kernel_rfl) (by kernel_rfl) (fun _ _ _ h => h) (by kernel_rfl) (fun v => ?_) ?_
                rotate_left
                · (go_simp; all_goals rfl)
                simp only [Act.put]
                refine tame0 (k := 2) ?_ rfl (by kernel_rfl) (by kernel_rfl) (by kernel_rfl) (fun _ _ _ h => h) (by kernel_rfl) (fun v => ?_) ?_
                rotate_left
                · (go_simp; all_goals rfl)
                simp only [Act.put]
                refine tame0 (k := 3) ?_ rfl (by kernel_rfl) (by kernel_rfl) (by kernel_rfl) (fun _ _ _ h => h) (by kernel_rfl) (fun v => ?_) ?_
                rotate_left
                · (go_simp; all_goals rfl)
                simp only [Act.put]
                refine tameT (k := 4) ?_ rfl (by kernel_rfl) (by kernel_rfl) (by kernel_rfl) (by kernel_rfl) (by kernel_rfl) (fun _ _ _ h => h) (by kernel_rfl) hS1_0 (fun v hv => ?_) ?_
                rotate_left
                · (obtain ⟨k1, k2, k3, k4, k5, k6, k7⟩ := hv; go_simp; all_goals rfl)
                simp only [Act.put]
                refine tame0 (k := 5) ?_ rfl (by kernel_rfl) (by kernel_rfl) (by kernel_rfl) (fun _ _ _ h => h) (by kernel_rfl) (fun v => ?_) ?_
                rotate_left
                · (go_simp; all_goals rfl)
                simp only [Act.put]
                refine tame0 (k := 6) ?_ rfl (by kernel_rfl) (by kernel_rfl) (by kernel_rfl) (fun _ _ _ h => h) (by kernel_rfl) (fun v => ?_) ?_
                rotate_left
                · (go_simp; all_goals rfl)
                simp only [Act.put]
                refine tameT (k := 7) ?_ rfl (by kernel_rfl) (by kernel_rfl) (by kernel_rfl) (by kernel_rfl) (by kernel_rfl) (fun _ _ _ h => h) (by kernel_rfl) hS1_0 (fun v hv => ?_) ?_
                rotate_left
                · (obtain ⟨k1, k2, k3, k4, k5, k6, k7⟩ := hv; go_simp; all_goals rfl)
                simp only [Act.put]
                refine tame0 (k := 8) ?_ rfl (by kernel_rfl) (by kernel_rfl) (by kernel_rfl) (fun _ _ _ h => h) (by kernel_rfl) (fun v => ?_) ?_
                rotate_left
                · (go_simp; all_goals rfl)
                simp only [Act.put]
                refine tame0 (k := 9) ?_ rfl (by kernel_rfl) (by kernel_rfl) (by kernel_rfl) (fun _ _ _ h => h) (by kernel_rfl) (fun v => ?_) ?_
                rotate_left
                · (go_simp; all_goals rfl)
                simp only [Act.put]
                refine tame0 (k := 10) ?_ rfl (by kernel_rfl) (by kernel_rfl) (by kernel_rfl) (fun _ _ _ h => h) (by kernel_rfl) (fun v => ?_) ?_
                rotate_left
                · (go_simp; all_goals rfl)
                simp only [Act.put]
                refine tame0 (k := 11) ?_ rfl (by kernel_rfl) (by kernel_rfl) (by kernel_rfl) (fun _ _ _ h => h) (by kernel_rfl) (fun v => ?_) ?_
                rotate_left
                · (go_simp; all_goals rfl)
                simp only [Act.put]
                refine tame0 (k := 12) ?_ rfl (by kernel_rfl) (by kernel_rfl) (by kernel_rfl) (fun _ _ _ h => h) (by kernel_rfl) (fun v => ?_) ?_
                rotate_left
                · (go_simp; all_goals rfl)
                simp only [Act.put]
                refine tameT (k := 13) ?_ rfl (by kernel_rfl) (by kernel_rfl) (by kernel_rfl) (by kernel_rfl) (by kernel_rfl) (fun _ _ _ h => h) (by kernel_rfl) hS1_0 (fun v hv => ?_) ?_
                rotate_left
                · (obtain ⟨k1, k2, k3, k4, k5, k6, k7⟩ := hv; go_simp; all_goals rfl)
                simp only [Act.put]
                refine tame0 (k := 14) ?_ rfl (by kernel_rfl) (by kernel_rfl) (by kernel_rfl) (fun _ _ _ h => h) (by kernel_rfl) (fun v => ?_) ?_
                rotate_left
                · (go_simp; all_goals rfl)
                simp only [Act.put]
                refine tame0 (k := 15) ?_ rfl (by kernel_rfl) (by kernel_rfl) (by kernel_rfl) (fun _ _ _ h => h) (by kernel_rfl) (fun v => ?_) ?_
                rotate_left
                · (go_simp; all_goals rfl)
                simp only [Act.put]
                refine tame0 (k := 16) ?_ rfl (by kernel_rfl) (by kernel_rfl) (by kernel_rfl) (fun _ _ _ h => h) (by kernel_rfl) (fun v => ?_) ?_
                rotate_left
                · (go_simp; all_goals rfl)
                simp only [Act.put]
                refine tameT (k := 17) ?_ rfl (by kernel_rfl) (by kernel_rfl) (by kernel_rfl) (by kernel_rfl) (by kernel_rfl) (fun _ _ _ h => h) (by kernel_rfl) hS1_0 (fun v hv => ?_) ?_
                rotate_left
                · (obtain ⟨k1, k2, k3, k4, k5, k6, k7⟩ := hv; go_simp; all_goals rfl)
                simp only [Act.put]
                refine tame_one (k := 18) (by kernel_rfl) rfl (by kernel_rfl) ?_
                go_simp
                refine (l2Less_is _ _ _ _ Q HQ.out (by omega) (by omega) (by omega) (by omega) (by omega) (by omega) (by omega) (by omega) _).mono ?_
                rintro e w5 ⟨rfl, b5⟩
                have hd1_1 := bUp hd1 b5 (Nat.le_refl _)
                have hS1_1 := Lib.hid (SK1.out _ hd1_1)
                refine ⟨by first | exact hS1_1 | exact Hid.out hS1_1, ?_⟩
                refine tame_one (k := 19) (by kernel_rfl) rfl (by kernel_rfl) ?_
                go_simp
                refine ⟨by first | exact hS1_1 | exact Hid.out hS1_1, ?_⟩
                refine tame_one (k := 20) (by kernel_rfl) rfl (by kernel_rfl) ?_
                go_simp
                refine ⟨by first | exact hS1_1 | exact Hid.out hS1_1, ?_⟩
                refine tame_one (k := 21) (by kernel_rfl) rfl (by kernel_rfl) ?_
                go_simp
                refine ⟨by first | exact hS1_1 | exact Hid.out hS1_1, ?_⟩
                have H5 := (Below.drew (Below.refl v.heap.size v)).trans b5
                have ob5 := ob.below H5
                have oc5 := ob5.cell (k := z) (by rw [inM_len]; exact hlz)
                have of5 := ob5.frozen z
                have hst := ob5.set z (!Q)
                rw [← HIY.out, HST.out] at hst
                have R5 := (R.below H5).grown hst.2 szz
                rw [HIY.out] at R5 hst
                refine tame_one (k := 22) (by kernel_rfl) rfl (by kernel_rfl) ?_
                go_simp
                try (refine ⟨fun h => absurd h (by decide), ?_⟩)
                refine tame_end (by kernel_rfl) ?_
                clear SK1 hd1 hd1_1 hS1_0 hS1_1 oc5 of5 ob5 ob R
                go_wp2_with fail
                go_roundw
                case rel => exact ⟨z + 1, by omega, by omega, by go_num, hst.1, R5⟩
                case measure => simp [intOf] <;> omega
              · have e1 := neB_wt hok hlz hez
                have HIY := Lib.hid (inY_end (f := nP ps) (x := x) (y := y) hez)
                clear hez
                go_upto_region 10 with fail
                have hd2 : Below v.heap.size v v.drew := Below.drew (Below.refl _ _)
                have SK2 : Hid (∀ w', Below v.heap.size v w' → w'.cell? ⟨w.heap.size, 0, none⟩ = some (.slice A1 P.length c1) ∧ w'.cell? ⟨w.heap.size, 1, none⟩ = some (.slice (some a2) W.length c2) ∧ w'.cell? (a2.add z) = some (.int .i64 (nth W z))) := Lib.hid fun w' HV => ⟨(HV.cell (p := ⟨w.heap.size, 0, none⟩) fz).trans f0, (HV.cell (p := ⟨w.heap.size, 1, none⟩) fz).trans f1, (HV.cell (cell_lt q2)).trans q2⟩
                clear f0 f1 q2
                have hS2_0 := SK2.out _ hd2
                refine tamed_region (S := fun w' => w'.cell? ⟨w.heap.size, 0, none⟩ = some (.slice A1 P.length c1) ∧ w'.cell? ⟨w.heap.size, 1, none⟩ = some (.slice (some a2) W.length c2) ∧ w'.cell? (a2.add z) = some (.int .i64 (nth W z))) (fun k => k == 22) (by kernel_rfl) ?_
                refine tame0 (k := 0) ?_ rfl (by kernel_rfl) (by kernel_rfl) (by kernel_rfl) (fun _ _ _ h => h) (by kernel_rfl) (fun v => ?_) ?_
                rotate_left
                · (go_simp; all_goals rfl)
                simp only [Act.put, List.setIfInBounds_toArray]
                refine tame0 (k := 1) ?_ rfl (by kernel_rfl) (by kernel_rfl) (by kernel_rfl) (fun _ _ _ h => h) (by kernel_rfl) (fun v => ?_) ?_
                rotate_left
                · (go_simp; all_goals rfl)
                simp only [Act.put]
                refine tame0 (k := 2) ?_ rfl (by kernel_rfl) (by kernel_rfl) (by kernel_rfl) (fun _ _ _ h => h) (by kernel_rfl) (fun v => ?_) ?_
                rotate_left
                · (go_simp; all_goals rfl)
                simp only [Act.put]
                refine tame0 (k := 3) ?_ rfl (by kernel_rfl) (by kernel_rfl) (by kernel_rfl) (fun _ _ _ h => h) (by kernel_rfl) (fun v => ?_) ?_
                rotate_left
                · (go_simp; all_goals rfl)
                simp only [Act.put]
                refine tameT (k := 4) ?_ rfl (by kernel_rfl) (by kernel_rfl) (by kernel_rfl) (by kernel_rfl) (by kernel_rfl) (fun _ _ _ h => h) (by kernel_rfl) hS2_0 (fun v hv => ?_) ?_
                rotate_left
                · (obtain ⟨k1, k2, k3⟩ := hv; go_simp; all_goals rfl)
                simp only [Act.put]
                refine tame0 (k := 5) ?_ rfl (by kernel_rfl) (by kernel_rfl) (by kernel_rfl) (fun _ _ _ h => h) (by kernel_rfl) (fun v => ?_) ?_
                rotate_left
                · (go_simp; all_goals rfl)
                simp only [Act.put]
                refine tame0 (k := 6) ?_ rfl (by kernel_rfl) (by kernel_rfl) (by kernel_rfl) (fun _ _ _ h => h) (by kernel_rfl) (fun v => ?_) ?_
                rotate_left
                · (go_simp; all_goals rfl)
                simp only [Act.put]
                refine tameT (k := 7) ?_ rfl (by kernel_rfl) (by kernel_rfl) (by kernel_rfl) (by kernel_rfl) (by kernel_rfl) (fun _ _ _ h => h) (by kernel_rfl) hS2_0 (fun v hv => ?_) ?_
                rotate_left
                · (obtain ⟨k1, k2, k3⟩ := hv; go_simp; all_goals rfl)
                simp only [Act.put]
                refine tame0 (k := 8) ?_ rfl (by kernel_rfl) (by kernel_rfl) (by kernel_rfl) (fun _ _ _ h => h) (by kernel_rfl) (fun v => ?_) ?_
                rotate_left
                · (go_simp; all_goals rfl)
                simp only [Act.put]
                refine tame0 (k := 9) ?_ rfl (by kernel_rfl) (by kernel_rfl) (by kernel_rfl) (fun _ _ _ h => h) (by kernel_rfl) (fun v => ?_) ?_
                rotate_left
                · (go_simp; all_goals rfl)
                simp only [Act.put]
                refine tame_no (k := 10) rfl (by kernel_rfl) (by kernel_rfl) (by kernel_rfl) (fun _ _ _ h => h) (by kernel_rfl) ?_
                simp only [Act.put]
                refine tame_no (k := 11) rfl (by kernel_rfl) (by kernel_rfl) (by kernel_rfl) (fun _ _ _ h => h) (by kernel_rfl) ?_
                simp only [Act.put]
                refine tame_no (k := 12) rfl (by kernel_rfl) (by kernel_rfl) (by kernel_rfl) (fun _ _ _ h => h) (by kernel_rfl) ?_
                simp only [Act.put]
                refine tame_no (k := 13) rfl (by kernel_rfl) (by kernel_rfl) (by kernel_rfl) (fun _ _ _ h => h) (by kernel_rfl) ?_
                simp only [Act.put]
                refine tame_no (k := 14) rfl (by kernel_rfl) (by kernel_rfl) (by kernel_rfl) (fun _ _ _ h => h) (by kernel_rfl) ?_
                simp only [Act.put]
                refine tame_no (k := 15) rfl (by kernel_rfl) (by kernel_rfl) (by kernel_rfl) (fun _ _ _ h => h) (by kernel_rfl) ?_
                simp only [Act.put]
                refine tame_no (k := 16) rfl (by kernel_rfl) (by kernel_rfl) (by kernel_rfl) (fun _ _ _ h => h) (by kernel_rfl) ?_
                simp only [Act.put]
                refine tame_no (k := 17) rfl (by kernel_rfl) (by kernel_rfl) (by kernel_rfl) (fun _ _ _ h => h) (by kernel_rfl) ?_
                simp only [Act.put]
                refine tame_no (k := 18) rfl (by kernel_rfl) (by kernel_rfl) (by kernel_rfl) (fun _ _ _ h => h) (by kernel_rfl) ?_
                simp only [Act.put]
                refine tame_no (k := 19) rfl (by kernel_rfl) (by kernel_rfl) (by kernel_rfl) (fun _ _ _ h => h) (by kernel_rfl) ?_
                simp only [Act.put]
                refine tame0 (k := 20) ?_ rfl (by kernel_rfl) (by kernel_rfl) (by kernel_rfl) (fun _ _ _ h => h) (by kernel_rfl) (fun v => ?_) ?_
                rotate_left
                · (go_simp; all_goals rfl)
                simp only [Act.put]
                refine tame0 (k := 21) ?_ rfl (by kernel_rfl) (by kernel_rfl) (by kernel_rfl) (fun _ _ _ h => h) (by kernel_rfl) (fun v => ?_) ?_
                rotate_left
                · (go_simp; all_goals rfl)
                simp only [Act.put]
                have H5 := Below.drew (Below.refl v.heap.size v)
                have ob5 := ob.below H5
                have oc5 := ob5.cell (k := z) (by rw [inM_len]; exact hlz)
                have of5 := ob5.frozen z
                have hst := ob5.set z false
                rw [← HIY.out, HST.out] at hst
                have R5 := (R.below H5).grown hst.2 szz
                rw [HIY.out] at R5 hst
                refine tame_one (k := 22) (by kernel_rfl) rfl (by kernel_rfl) ?_
                go_simp
                try (refine ⟨fun h => absurd h (by decide), ?_⟩)
                refine tame_end (by kernel_rfl) ?_
                clear SK2 hd2 hS2_0 oc5 of5 ob5 ob R
                go_wp2_with fail
                go_roundw
                case rel => exact ⟨z + 1, by omega, by omega, by go_num, hst.1, R5⟩
                case measure => simp [intOf] <;> omega
            · obtain rfl : z = P.length := by omega
              clear hwy
              have gnB := gnR_bd hk (nthB (inM P (nP ps) x y P.length)) x
              have tmB := tmR_bd hk (nthB (inM P (nP ps) x y P.length)) x
              have tmP := tmR_pos hok hk.a1 (b := b) (by have := hk.a1; have := hk.ab; omega) hx (nthB (inM P (nP ps) x y P.length))
              have HPR := Lib.hid (inM_pr (f := nP ps) (x := x) hk y)
              have HQF := Lib.hid (frP_iff.1 (prI_fr hk hx (inY P (nP ps) x y)))
              have HBF := Lib.hid (frP_iff.1 (rfB_fr (f := nP ps) (k := y) hk hx))
              go_wp2_with fail
              refine (l8Pair_c A1 P c1 (some a2) W c2 (some a3) F c3 a b hk w3.heap.size P.length w3.heap.size (inM P (nP ps) x y P.length) (inM_len _ _) P.length x _ (by omega) hx (h.below R.hb (Nat.le_refl _)) ob).mono ?_
              rintro e w5 ⟨rfl, b5⟩
              have R5 := (R.below b5).below ((Below.refl _ _).alloc (Nat.le_refl _) (.cells #[.int .i64 (gnR P W F a b (nthB (inM P (nP ps) x y P.length)) x), .int .i64 (tmR P W a b (nthB (inM P (nP ps) x y P.length)) x)] 28))
              clear R f0 f1 f2 fz b5 ob
              have HPQ : Hid ((cutT (gnR P W F a b (nthB (inM P (nP ps) x y P.length)) x) (tmR P W a b (nthB (inM P (nP ps) x y P.length)) x), cutB (gnR P W F a b (nthB (inM P (nP ps) x y P.length)) x) (tmR P W a b (nthB (inM P (nP ps) x y P.length)) x)) = prI P W F a b (inY P (nP ps) x y) x) := Lib.hid HPR.out
              go_wp2_with fail
              refine (l2Cut_c _ _ (by omega) (by omega) (by omega) (by omega) _).mono ?_
              rintro e w6 ⟨rfl, b6⟩
              have R6 := R5.below b6
              generalize cutT (gnR P W F a b (nthB (inM P (nP ps) x y P.length)) x) (tmR P W a b (nthB (inM P (nP ps) x y P.length)) x) = q1 at *
              generalize cutB (gnR P W F a b (nthB (inM P (nP ps) x y P.length)) x) (tmR P W a b (nthB (inM P (nP ps) x y P.length)) x) = q2 at *
              clear R5 b6 gnB tmB tmP
              have QF := HQF.out
              have BF := HBF.out
              rw [← HPQ.out] at QF
              simp only at QF
              have R7 := R6.below ((Below.refl _ _).alloc (Nat.le_refl _) (.cells #[.int .i64 q1, .int .i64 q2] 28))
              have bq := Bx.new w6 (.int .i64 q1) (.int .i64 q2) 28
              obtain ⟨p0, p1, p2, p3, p4⟩ := id R6.bb
              obtain ⟨Q, hQ⟩ : ∃ Q, Q = betP true (q1, q2) (rfB P W F a b (nP ps) x y) := ⟨_, rfl⟩
              have HS2 : Hid (rfB P W F a b (nP ps) x (y + 1) = if Q = true then (q1, q2) else rfB P W F a b (nP ps) x y) := Lib.hid (by rw [HS.out, ← HPQ.out, hQ])
              have HQ : Hid (decide ((rfB P W F a b (nP ps) x y).1 * q2 < q1 * (rfB P W F a b (nP ps) x y).2) = Q) := Lib.hid (by rw [hQ]; rfl)
              clear hQ R6
              go_wp2_with fail
              refine (l2Less_is _ _ _ _ Q HQ.out (by omega) (by omega) (by omega) (by omega) (by omega) (by omega) (by omega) (by omega) _).mono ?_
              rintro e w8 ⟨rfl, b8⟩
              have R8 := R7.below b8
              have bq8 := bq.below b8
              clear R7 p0 p1 p2 p3 p4 bq b8
              obtain ⟨p0, p1, p2, p3, p4⟩ := id R8.bb
              obtain ⟨u0, u1, u2, u3, u4⟩ := id bq8
              cases Q
              · go_wp2
                go_roundw
                case rel => exact ⟨y + 1, by omega, by omega, by go_num, by rw [HS2.out]; exact R8⟩
                case measure => simp [intOf] <;> omega
              · have R9 := R8.set q1 q2
                go_wp2
                go_roundw
                case rel => exact ⟨y + 1, by omega, by omega, by go_num, by rw [HS2.out]; exact R9⟩
                case measure => simp [intOf] <;> omega
        · have hwy := wt_end hok hlt hey
          have HS := Lib.hid (rfB_no2 (W := W) (F := F) (a := a) (b := b) (f := nP ps) (x := x) hey)
          clear hu hey
          go_wp2
          go_roundw
          case rel => exact ⟨y + 1, by omega, by omega, by go_num, by rw [HS.out]; exact R3⟩
          case measure => simp [intOf] <;> omega
    · obtain rfl : y = P.length := by omega
      have HV := Lib.hid (show rfB P W F a b (nP ps) x P.length = idxP P W F a b x from rf_idx hk hx HEX.out HPS.out)
      obtain ⟨p0, p1, p2, p3, p4⟩ := id R.bb
      rw [HV.out] at p0 p1
      obtain ⟨r0, r1, r2, r3, r4⟩ := id R.br
      go_wp2
      exact bodyPost_ret (v := .agg #[.int .i64 (idxP P W F a b x).1, .int .i64 (idxP P W F a b x).2]) (by simp [results, Try.results76, go_sem, r0, r1]) rfl ⟨rfl, by with_reducible repeat (first | exact R.hb | refine Below.setCell ?_ (by simp <;> omega) _)⟩
end Go.Proofs.Ytdhagkckkdaenaa
