/- The index of a node: the program's walk. -/
import Derived.Test.YtdhagkckkdaenaaPlW
import Derived.Test.YtdhagkckkdaenaaSetW
import Derived.Test.YtdhagkckkdaenaaCmp
import Derived.Test.YtdhagkckkdaenaaFrac
namespace Go.Proofs.Ytdhagkckkdaenaa
open Go.RowKit

theorem bx_put {W : World} {g : Nat} {x y : Value} (h : Bx W g x y) (x' y' : Value) : Bx ((W.setCell ⟨g, 0, none⟩ x').setCell ⟨g, 1, none⟩ y') g x' y' := by
  obtain ⟨c0, c1, z0, z1, l⟩ := h
  refine ⟨by go_simp, by go_simp, ?_, ?_, by simpa using l⟩
  · go_simp
  · go_simp

/-- The best quotient of the first k sets. -/
def bsI (l : List (Int × Int)) (k : Nat) : Int × Int := if k = 0 then (0, 1) else bestTo true l (k - 1)
theorem bsI_zero (l : List (Int × Int)) : bsI l 0 = (0, 1) := rfl
theorem bsI_one (l : List (Int × Int)) : bsI l 1 = nP l 0 := rfl
theorem bsI_yes {l : List (Int × Int)} {k : Nat} (hk : 0 < k) (h : betP true (nP l k) (bsI l k) = true) : bsI l (k + 1) = nP l k := by
  obtain ⟨m, rfl⟩ : ∃ m, k = m + 1 := ⟨k - 1, by omega⟩
  unfold bsI at *
  rw [if_neg (by omega)] at h ⊢
  show bestTo true l (m + 1) = _
  rw [bestTo]
  exact if_pos h
theorem bsI_no {l : List (Int × Int)} {k : Nat} (hk : 0 < k) (h : ¬ betP true (nP l k) (bsI l k) = true) : bsI l (k + 1) = bsI l k := by
  obtain ⟨m, rfl⟩ : ∃ m, k = m + 1 := ⟨k - 1, by omega⟩
  unfold bsI at *
  rw [if_neg (by omega)] at h
  rw [if_neg (by omega), if_neg (by omega)]
  show bestTo true l (m + 1) = bestTo true l m
  rw [bestTo]
  exact if_neg h
theorem bsI_all {P W F : List Int} {a b : Int} {x : Nat} : bsI (idxL P W F a b x) (sts P x).length = idxP P W F a b x := by
  cases he : endB P x
  · have := sts_pos he
    have hl : (idxL P W F a b x).length = (sts P x).length := by rw [idxL, List.length_map]
    rw [bsI, if_neg (by omega), idxP, he, if_neg (by simp), topOf, hl]
  · rw [idxP, he, if_pos rfl, sts_end he]
    rfl
theorem idxL_nP {P W F : List Int} {a b : Int} {x k : Nat} (hk : k < (sts P x).length) : nP (idxL P W F a b x) k = prS P W F a b x (lAt (sts P x) k) := by
  have e : lAt (sts P x) k = (sts P x)[k] := by simp [lAt, List.getD_eq_getElem?_getD, hk]
  rw [e]
  simp [nP, idxL, List.getD_eq_getElem?_getD, hk]
theorem bsI_fr {P W F : List Int} {a b : Int} (h : ArmAB P W F a b) {x : Nat} (hx : x < P.length) (he : endB P x = false) {k : Nat} (hk : k ≤ (sts P x).length) : frP (bsI (idxL P W F a b x) k) = true := by
  unfold bsI
  split
  · decide
  · exact idxL_fr h hx he _ (bestTo_mem _ (by rw [idxL, List.length_map]; omega))
/-- What is known of a set that the program lists. -/
theorem sts_known {P W F : List Int} {a b : Int} (h : ArmAB P W F a b) {x : Nat} (hx : x < P.length) {k : Nat} (hk : k < (sts P x).length) :
    (∀ j, j < (lAt (sts P x) k).length → ∃ y : Nat, nth (lAt (sts P x) k) j = (y : Int) ∧ y < P.length ∧ dpN P x ≤ dpN P y) ∧ (lAt (sts P x) k).length ≤ 9 ∧ frP (prS P W F a b x (lAt (sts P x) k)) = true ∧
    0 < tmA P W a b x (lAt (sts P x) k) ∧ (-50000000 ≤ gnA P W F a b x (lAt (sts P x) k) ∧ gnA P W F a b x (lAt (sts P x) k) ≤ 50000000) ∧ tmA P W a b x (lAt (sts P x) k) ≤ 500000 := by
  have he : endB P x = false := by
    cases he : endB P x
    · rfl
    · rw [sts_end he] at hk
      exact absurd hk (by simp)
  obtain ⟨i, hi, e⟩ := (mem_sts h.arm.tree.par hx he _).1 (lAt_mem hk)
  have hr := sts_row h.arm.n9 hk
  rw [e] at hr ⊢
  have h1 := tmR_pos h.arm h.a1 (b := b) (by have := h.a1; have := h.ab; omega) hx i
  have h2 := kP_pos (P := P) (b := b) (by have := h.a1; have := h.ab; omega) x
  have h3 := Int.mul_le_mul h2 h1 (by decide) (by omega)
  have hg := gnT_bd h.arm h.a1 h.ab h.b4 (x := x) (s := rL P i x P.length) (rL_in i x P.length) _ (Nat.le_refl _)
  have ht := tmT_bd h.arm h.a1 h.ab h.b4 (x := x) (s := rL P i x P.length) (rL_in i x P.length) _ (Nat.le_refl _)
  refine ⟨fun j hj => ?_, hr, ?_, ?_, ?_, ?_⟩
  · obtain ⟨y, e1, e2, e3⟩ := rL_at i x P.length j hj
    exact ⟨y, e1, e2, rch_dep h.arm.tree.par e2 e3⟩
  · rw [prS_rL h hx]
    exact prI_fr h hx i
  · rw [tmA_eq h.arm hx]; omega
  · unfold gnA; omega
  · unfold tmA; omega
theorem lw_of {T B : Int} (h : frP (cutT T B, cutB T B) = true) : lwT T B = cutT T B ∧ lwB T B = cutB T B := by
  have h' : fracB (cutT T B) (cutB T B) = true := h
  unfold lwT lwB kpT kpB
  rw [h']
  exact ⟨rfl, rfl⟩
/-- The state of the walk over a node's sets. -/
structure IxR (w wr : World) (x y z : Value) (A : Option Addr) (L : List (List Int)) (f : Int × Int) : Prop where
  bx : Bx3 wr w.heap.size x y z
  br : Bx wr (w.heap.size + 1) (.int .i64 0) (.int .i64 0)
  bb : Bx wr (w.heap.size + 2) (.int .i64 f.1) (.int .i64 f.2)
  rows : RowsAt wr (w.heap.size + 3) A L
  hb : Below w.heap.size w wr
section
variable {w wr wr' : World} {x y z : Value} {A : Option Addr} {L : List (List Int)} {f : Int × Int}
theorem IxR.below (h : IxR w wr x y z A L f) (b : Below wr.heap.size wr wr') : IxR w wr' x y z A L f :=
  ⟨h.bx.below b, h.br.below b, h.bb.below b, h.rows.below b (Nat.le_refl _), bUp h.hb b h.hb.size⟩
theorem IxR.set (h : IxR w wr x y z A L f) (s t : Int) : IxR w ((wr.setCell ⟨w.heap.size + 2, 0, none⟩ (.int .i64 s)).setCell ⟨w.heap.size + 2, 1, none⟩ (.int .i64 t)) x y z A L (s, t) := by
  have hg : wr.grownBy ((wr.setCell ⟨w.heap.size + 2, 0, none⟩ (.int .i64 s)).setCell ⟨w.heap.size + 2, 1, none⟩ (.int .i64 t)) (some (w.heap.size + 2)) := (grown_setCell wr ⟨w.heap.size + 2, 0, none⟩ _).trans (grown_setCell _ ⟨w.heap.size + 2, 1, none⟩ _)
  exact ⟨h.bx.grown hg (by omega), h.br.grown hg (by simp), by simpa using bx_put h.bb (.int .i64 s) (.int .i64 t), h.rows.grown hg (by omega), h.hb.grown hg h.hb.size (fun k hk => by injection hk with hk; omega)⟩
end
set_option maxRecDepth 20000 in
set_option maxHeartbeats 2000000 in
theorem index_c (A1 : Option Addr) (P : List Int) (c1 : Nat) (A2 : Option Addr) (W : List Int) (c2 : Nat) (A3 : Option Addr) (F : List Int) (c3 : Nat) (a b : Int) (x : Nat) (w : World) (h : RdM w A1 P A2 W A3 F) (hk : ArmAB P W F a b) (hx : x < P.length) :
    Calls Try.prog 48 #[mkV A1 P.length c1 A2 W.length c2 A3 F.length c3, .int .i64 a, .int .i64 b, .int .i64 (x : Int)] w (Quietly w (.agg #[.int .i64 (idxP P W F a b x).1, .int .i64 (idxP P W F a b x).2])) := by
  have HB1 : Below w.heap.size w (((w.alloc (.cells #[.slice A1 P.length c1, .slice A2 W.length c2, .slice A3 F.length c3] 33)).alloc (.cells #[.int .i64 0, .int .i64 0] 28)).alloc (.cells #[.int .i64 0, .int .i64 1] 28)) := (((Below.refl _ _).alloc (Nat.le_refl _) _).alloc (by simp) _).alloc (by simp <;> omega) _
  have bx := ((Bx3.new w (.slice A1 P.length c1) (.slice A2 W.length c2) (.slice A3 F.length c3) 33).alloc (.cells #[.int .i64 0, .int .i64 0] 28)).alloc (.cells #[.int .i64 0, .int .i64 1] 28)
  have br := (Bx.new (w.alloc (.cells #[.slice A1 P.length c1, .slice A2 W.length c2, .slice A3 F.length c3] 33)) (.int .i64 0) (.int .i64 0) 28).alloc (.cells #[.int .i64 0, .int .i64 1] 28)
  have bb := Bx.new ((w.alloc (.cells #[.slice A1 P.length c1, .slice A2 W.length c2, .slice A3 F.length c3] 33)).alloc (.cells #[.int .i64 0, .int .i64 0] 28)) (.int .i64 0) (.int .i64 1) 28
  have hsz : (((w.alloc (.cells #[.slice A1 P.length c1, .slice A2 W.length c2, .slice A3 F.length c3] 33)).alloc (.cells #[.int .i64 0, .int .i64 0] 28)).alloc (.cells #[.int .i64 0, .int .i64 1] 28)).heap.size = w.heap.size + 3 := by simp
  simp only [World.size_alloc] at br bb
  go_enter Try.func48, Try.ntmps48
  go_wp2_with fail
  generalize ((w.alloc (.cells #[.slice A1 P.length c1, .slice A2 W.length c2, .slice A3 F.length c3] 33)).alloc (.cells #[.int .i64 0, .int .i64 0] 28)).alloc (.cells #[.int .i64 0, .int .i64 1] 28) = v at *
  refine (sets_c A1 P c1 A2 W c2 A3 F c3 x _ (h.below HB1 (Nat.le_refl _)) hk.arm.tree.par hk.arm.len hk.arm.n9 hx).mono ?_
  rintro e w2 ⟨A, c, rfl, hR, b2⟩
  rw [hsz] at hR
  have R0 : IxR w w2 (.slice A1 P.length c1) (.slice A2 W.length c2) (.slice A3 F.length c3) A (sts P x) (bsI (idxL P W F a b x) 0) :=
    ⟨bx.below b2, br.below b2, by rw [bsI_zero]; exact bb.below b2, hR, bUp HB1 b2 HB1.size⟩
  clear HB1 bx br bb hsz hR b2
  have hlen := sts_len hk.arm.n9 x
  go_wp2
  go_loopw [19] (fun i wr => ∃ k : Nat, k ≤ (sts P x).length ∧ i = .int .i64 (k : Int) ∧ IxR w wr (.slice A1 P.length c1) (.slice A2 W.length c2) (.slice A3 F.length c3) A (sts P x) (bsI (idxL P W F a b x) k)) (fun i _ => (sts P x).length - (intOf i).toNat)
  case atStart => exact ⟨0, Nat.zero_le _, rfl, R0⟩
  case round =>
    clear R0
    obtain ⟨k, hkl, rfl, R⟩ := hrel
    obtain ⟨wo, rfl⟩ : ∃ wo : World, wo = wr := ⟨_, rfl⟩
    by_cases hlt : k < (sts P x).length
    · have he : endB P x = false := by
        cases he : endB P x
        · rfl
        · rw [sts_end he] at hlt
          exact absurd hlt (by simp)
      obtain ⟨hkn, hn9, hfr, ht0, hgb, htb⟩ := sts_known hk hx hlt
      have HN := Lib.hid (idxL_nP (P := P) (W := W) (F := F) (a := a) (b := b) hlt)
      have HLW := Lib.hid (lw_of hfr)
      have HFB := Lib.hid (bsI_fr hk hx he hkl)
      have HFR := Lib.hid hfr
      have HKN := Lib.hid hkn
      clear hkn hfr
      obtain ⟨g, aS, cS, rfl, hcell, hrd, _, _⟩ := R.rows k hlt
      obtain ⟨f0, f1, f2, fz⟩ := id R.bx
      go_wp2_with fail
      refine (played_c A1 P c1 A2 W c2 A3 F c3 a b x (some aS) _ cS _ (h.below R.hb (Nat.le_refl _)) hk hx hrd hn9 HKN.out).mono ?_
      rintro e w3 ⟨rfl, b3⟩
      have R3 := R.below b3
      clear R f0 f1 f2 fz hcell hrd b3
      go_wp2_with fail
      refine (lowest_c _ _ (by omega) (by omega) ht0 (by omega) _).mono ?_
      rintro e w4 ⟨rfl, b4⟩
      have R4 := R3.below b4
      rw [HLW.out.1, HLW.out.2]
      clear R3 b4
      have HF : Hid (prS P W F a b x (lAt (sts P x) k) = (cutT (gnA P W F a b x (lAt (sts P x) k)) (tmA P W a b x (lAt (sts P x) k)), cutB (gnA P W F a b x (lAt (sts P x) k)) (tmA P W a b x (lAt (sts P x) k)))) := Lib.hid rfl
      generalize cutT (gnA P W F a b x (lAt (sts P x) k)) (tmA P W a b x (lAt (sts P x) k)) = s at *
      generalize cutB (gnA P W F a b x (lAt (sts P x) k)) (tmA P W a b x (lAt (sts P x) k)) = t at *
      obtain ⟨q0, q1, q2, q3, q4⟩ := id R4.bb
      have bf := Bx.new w4 (.int .i64 s) (.int .i64 t) 28
      have R5 := R4.below ((Below.refl _ _).alloc (Nat.le_refl _) (.cells #[.int .i64 s, .int .i64 t] 28))
      rcases Nat.eq_zero_or_pos k with rfl | hk0
      · have R6 := (R4.set s t).below ((Below.refl _ _).alloc (Nat.le_refl _) (.cells #[.int .i64 s, .int .i64 t] 28))
        go_wp2
        go_roundw
        case rel => exact ⟨1, by omega, by first | rfl | go_num, by rw [bsI_one, HN.out, HF.out]; exact R6⟩
        case measure => simp [intOf] <;> omega
      · have e0 : ((k : Int) == 0) = false := by simp; omega
        have bF := frP_iff.1 HFB.out
        have bS := frP_iff.1 HFR.out
        rw [HF.out] at bS
        simp only at bS
        have HBE : Hid (betP true (s, t) (bsI (idxL P W F a b x) k) = true → bsI (idxL P W F a b x) (k + 1) = (s, t)) := Lib.hid fun hb => by
          rw [bsI_yes hk0 (by rw [HN.out, HF.out]; exact hb), HN.out, HF.out]
        have HBN : Hid (¬ betP true (s, t) (bsI (idxL P W F a b x) k) = true → bsI (idxL P W F a b x) (k + 1) = bsI (idxL P W F a b x) k) := Lib.hid fun hb => bsI_no hk0 (by rw [HN.out, HF.out]; exact hb)
        clear R4
        go_wp2_with fail
        refine (compared_c s t _ _ (by omega) (by omega) (by omega) (by omega) _).mono ?_
        rintro e w6 ⟨rfl, b6⟩
        have R6 := R5.below b6
        have hc := cmp_up (f := (s, t)) (g := ((bsI (idxL P W F a b x) k).1, (bsI (idxL P W F a b x) k).2))
        have bf6 := bf.below b6
        obtain ⟨u0, u1, _, _, u4⟩ := id bf6
        obtain ⟨p0, p1, p2, p3, p4⟩ := id R6.bb
        by_cases hb : betP true (s, t) (bsI (idxL P W F a b x) k) = true
        · have HB2 := Lib.hid (HBE.out hb)
          have hq : 0 < cmpI (s, t) ((bsI (idxL P W F a b x) k).1, (bsI (idxL P W F a b x) k).2) := by rw [gt_iff_lt] at hc; rw [hc]; exact hb
          clear hc hb
          generalize cmpI (s, t) ((bsI (idxL P W F a b x) k).1, (bsI (idxL P W F a b x) k).2) = q at *
          have R7 := R6.set s t
          clear R5 R6 q0 q1 q2 q3 q4
          go_wp2
          go_roundw
          case rel => exact ⟨k + 1, by omega, by go_num, by rw [HB2.out]; exact R7⟩
          case measure => simp [intOf] <;> omega
        · have HB2 := Lib.hid (HBN.out hb)
          have hq : ¬ 0 < cmpI (s, t) ((bsI (idxL P W F a b x) k).1, (bsI (idxL P W F a b x) k).2) := by rw [gt_iff_lt] at hc; rw [hc]; exact hb
          clear hc hb
          generalize cmpI (s, t) ((bsI (idxL P W F a b x) k).1, (bsI (idxL P W F a b x) k).2) = q at *
          clear R5 q0 q1 q2 q3 q4
          go_wp2
          go_roundw
          case rel => exact ⟨k + 1, by omega, by go_num, by rw [HB2.out]; exact R6⟩
          case measure => simp [intOf] <;> omega
    · obtain rfl : k = (sts P x).length := by omega
      have HA := Lib.hid (bsI_all (P := P) (W := W) (F := F) (a := a) (b := b) (x := x))
      obtain ⟨q0, q1, q2, q3, q4⟩ := id R.bb
      obtain ⟨r0, r1, r2, r3, r4⟩ := id R.br
      rw [HA.out] at q0 q1
      go_wp2
      exact bodyPost_ret (v := .agg #[.int .i64 (idxP P W F a b x).1, .int .i64 (idxP P W F a b x).2]) (by simp [results, Try.results48, go_sem, r0, r1]) rfl ⟨rfl, by with_reducible repeat (first | exact R.hb | refine Below.setCell ?_ (by simp <;> omega) _)⟩
end Go.Proofs.Ytdhagkckkdaenaa
