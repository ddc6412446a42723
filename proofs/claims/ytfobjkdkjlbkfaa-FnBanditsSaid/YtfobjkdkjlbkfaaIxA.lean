/- Indices: both packages' walks. -/
import Derived.Test.YtfobjkdkjlbkfaaPsA
import Derived.Test.YtfobjkdkjlbkfaaFrac
import Derived.Test.YtfobjkdkjlbkfaaIdxL
import Derived.Test.YtfobjkdkjlbkfaaButA
import Derived.Test.YtfobjkdkjlbkfaaLvB
import Derived.Deep.CutRange
import Derived.Test.YtfobjkdkjlbkfaaFracW
import Derived.Test.YtfobjkdkjlbkfaaPairs
namespace Go.Proofs.Ytfobjkdkjlbkfaa
open Go.RowKit

theorem bx_put {W : World} {g : Nat} {x y : Value} (h : Bx W g x y) (x' y' : Value) : Bx ((W.setCell ⟨g, 0, none⟩ x').setCell ⟨g, 1, none⟩ y') g x' y' := by
  obtain ⟨c0, c1, z0, z1, l⟩ := h
  refine ⟨by go_simp, by go_simp, ?_, ?_, by simpa using l⟩
  · go_simp
  · go_simp

/-- The best quotient of the first k sets. -/
def bsI (l : List (Int × Int)) (k : Nat) : Int × Int := if k = 0 then (0, 1) else bestTo true l (k - 1)
theorem bsI_zero (l : List (Int × Int)) : bsI l 0 = (0, 1) := rfl
theorem bsI_one (l : List (Int × Int)) : bsI l 1 = nP l 0 := rfl
theorem bsI_yes {l : List (Int × Int)} {k : Nat} (hk : 0 < k) (h : betP true (nP l k) (bsI l k) = true) : bsI l (k + 1) = nP l k := by
  obtain ⟨m, rfl⟩ : ∃ m, k = m + 1 := ⟨k - 1, by omega⟩
  unfold bsI at *
  rw [if_neg (by omega)] at h ⊢
  show bestTo true l (m + 1) = _
  rw [bestTo]
  exact if_pos h
theorem bsI_no {l : List (Int × Int)} {k : Nat} (hk : 0 < k) (h : ¬ betP true (nP l k) (bsI l k) = true) : bsI l (k + 1) = bsI l k := by
  obtain ⟨m, rfl⟩ : ∃ m, k = m + 1 := ⟨k - 1, by omega⟩
  unfold bsI at *
  rw [if_neg (by omega)] at h
  rw [if_neg (by omega), if_neg (by omega)]
  show bestTo true l (m + 1) = bestTo true l m
  rw [bestTo]
  exact if_neg h
theorem bsI_all {P W F : List Int} {a b : Int} {x : Nat} : bsI (idxL P W F a b x) (sts P x).length = idxP P W F a b x := by
  cases he : endB P x
  · have := sts_pos he
    have hl : (idxL P W F a b x).length = (sts P x).length := by rw [idxL, List.length_map]
    rw [bsI, if_neg (by omega), idxP, he, if_neg (by simp), topOf, hl]
  · rw [idxP, he, if_pos rfl, sts_end he]
    rfl
theorem idxL_nP {P W F : List Int} {a b : Int} {x k : Nat} (hk : k < (sts P x).length) : nP (idxL P W F a b x) k = prS P W F a b x (lAt (sts P x) k) := by
  have e : lAt (sts P x) k = (sts P x)[k] := by simp [lAt, List.getD_eq_getElem?_getD, hk]
  rw [e]
  simp [nP, idxL, List.getD_eq_getElem?_getD, hk]
theorem bsI_fr {P W F : List Int} {a b : Int} (h : ArmAB P W F a b) {x : Nat} (hx : x < P.length) (he : endB P x = false) {k : Nat} (hk : k ≤ (sts P x).length) : frP (bsI (idxL P W F a b x) k) = true := by
  unfold bsI
  split
  · decide
  · exact idxL_fr h hx he _ (bestTo_mem _ (by rw [idxL, List.length_map]; omega))
/-- What is known of a set that the program lists. -/
theorem sts_known {P W F : List Int} {a b : Int} (h : ArmAB P W F a b) {x : Nat} (hx : x < P.length) {k : Nat} (hk : k < (sts P x).length) :
    (∀ j, j < (lAt (sts P x) k).length → ∃ y : Nat, nth (lAt (sts P x) k) j = (y : Int) ∧ y < P.length ∧ dpN P x ≤ dpN P y) ∧ (lAt (sts P x) k).length ≤ 9 ∧ frP (prS P W F a b x (lAt (sts P x) k)) = true ∧
    0 < tmA P W a b x (lAt (sts P x) k) ∧ (-50000000 ≤ gnA P W F a b x (lAt (sts P x) k) ∧ gnA P W F a b x (lAt (sts P x) k) ≤ 50000000) ∧ tmA P W a b x (lAt (sts P x) k) ≤ 500000 := by
  have he : endB P x = false := by
    cases he : endB P x
    · rfl
    · rw [sts_end he] at hk
      exact absurd hk (by simp)
  obtain ⟨i, hi, e⟩ := (mem_sts h.arm.tree.par hx he _).1 (lAt_mem hk)
  have hr := sts_row h.arm.n9 hk
  rw [e] at hr ⊢
  have h1 := tmR_pos h.arm h.a1 (b := b) (by have := h.a1; have := h.ab; omega) hx i
  have h2 := kP_pos (P := P) (b := b) (by have := h.a1; have := h.ab; omega) x
  have h3 := Int.mul_le_mul h2 h1 (by decide) (by omega)
  have hg := gnT_bd h.arm h.a1 h.ab h.b4 (x := x) (s := rL P i x P.length) (rL_in i x P.length) _ (Nat.le_refl _)
  have ht := tmT_bd h.arm h.a1 h.ab h.b4 (x := x) (s := rL P i x P.length) (rL_in i x P.length) _ (Nat.le_refl _)
  refine ⟨fun j hj => ?_, hr, ?_, ?_, ?_, ?_⟩
  · obtain ⟨y, e1, e2, e3⟩ := rL_at i x P.length j hj
    exact ⟨y, e1, e2, rch_dep h.arm.tree.par e2 e3⟩
  · rw [prS_rL h hx]
    exact prI_fr h hx i
  · rw [tmA_eq h.arm hx]; omega
  · unfold gnA; omega
  · unfold tmA; omega
theorem lw_of {T B : Int} (h : frP (cutT T B, cutB T B) = true) : lwT T B = cutT T B ∧ lwB T B = cutB T B := by
  have h' : fracB (cutT T B) (cutB T B) = true := h
  unfold lwT lwB kpT kpB
  rw [h']
  exact ⟨rfl, rfl⟩
/-- The state of the walk over a node's sets. -/
structure IxR (w wr : World) (x y z : Value) (A : Option Addr) (L : List (List Int)) (f : Int × Int) : Prop where
  bx : Bx3 wr w.heap.size x y z
  br : Bx wr (w.heap.size + 1) (.int .i64 0) (.int .i64 0)
  bb : Bx wr (w.heap.size + 2) (.int .i64 f.1) (.int .i64 f.2)
  rows : RowsAt wr (w.heap.size + 3) A L
  hb : Below w.heap.size w wr
section
variable {w wr wr' : World} {x y z : Value} {A : Option Addr} {L : List (List Int)} {f : Int × Int}
theorem IxR.below (h : IxR w wr x y z A L f) (b : Below wr.heap.size wr wr') : IxR w wr' x y z A L f :=
  ⟨h.bx.below b, h.br.below b, h.bb.below b, h.rows.below b (Nat.le_refl _), bUp h.hb b h.hb.size⟩
theorem IxR.set (h : IxR w wr x y z A L f) (s t : Int) : IxR w ((wr.setCell ⟨w.heap.size + 2, 0, none⟩ (.int .i64 s)).setCell ⟨w.heap.size + 2, 1, none⟩ (.int .i64 t)) x y z A L (s, t) := by
  have hg : wr.grownBy ((wr.setCell ⟨w.heap.size + 2, 0, none⟩ (.int .i64 s)).setCell ⟨w.heap.size + 2, 1, none⟩ (.int .i64 t)) (some (w.heap.size + 2)) := (grown_setCell wr ⟨w.heap.size + 2, 0, none⟩ _).trans (grown_setCell _ ⟨w.heap.size + 2, 1, none⟩ _)
  exact ⟨h.bx.grown hg (by omega), h.br.grown hg (by simp), by simpa using bx_put h.bb (.int .i64 s) (.int .i64 t), h.rows.grown hg (by omega), h.hb.grown hg h.hb.size (fun k hk => by injection hk with hk; omega)⟩
end
set_option maxRecDepth 20000 in
set_option maxHeartbeats 2000000 in
theorem index_c (A1 : Option Addr) (P : List Int) (c1 : Nat) (A2 : Option Addr) (W : List Int) (c2 : Nat) (A3 : Option Addr) (F : List Int) (c3 : Nat) (a b : Int) (x : Nat) (w : World) (h : RdM w A1 P A2 W A3 F) (hk : ArmAB P W F a b) (hx : x < P.length) :
    Calls Try.prog 61 #[mkV A1 P.length c1 A2 W.length c2 A3 F.length c3, .int .i64 a, .int .i64 b, .int .i64 (x : Int)] w (Quietly w (.agg #[.int .i64 (idxP P W F a b x).1, .int .i64 (idxP P W F a b x).2])) := by
  have HB1 : Below w.heap.size w (((w.alloc (.cells #[.slice A1 P.length c1, .slice A2 W.length c2, .slice A3 F.length c3] 28)).alloc (.cells #[.int .i64 0, .int .i64 0] 31)).alloc (.cells #[.int .i64 0, .int .i64 1] 31)) := (((Below.refl _ _).alloc (Nat.le_refl _) _).alloc (by simp) _).alloc (by simp <;> omega) _
  have bx := ((Bx3.new w (.slice A1 P.length c1) (.slice A2 W.length c2) (.slice A3 F.length c3) 28).alloc (.cells #[.int .i64 0, .int .i64 0] 31)).alloc (.cells #[.int .i64 0, .int .i64 1] 31)
  have br := (Bx.new (w.alloc (.cells #[.slice A1 P.length c1, .slice A2 W.length c2, .slice A3 F.length c3] 28)) (.int .i64 0) (.int .i64 0) 31).alloc (.cells #[.int .i64 0, .int .i64 1] 31)
  have bb := Bx.new ((w.alloc (.cells #[.slice A1 P.length c1, .slice A2 W.length c2, .slice A3 F.length c3] 28)).alloc (.cells #[.int .i64 0, .int .i64 0] 31)) (.int .i64 0) (.int .i64 1) 31
  have hsz : (((w.alloc (.cells #[.slice A1 P.length c1, .slice A2 W.length c2, .slice A3 F.length c3] 28)).alloc (.cells #[.int .i64 0, .int .i64 0] 31)).alloc (.cells #[.int .i64 0, .int .i64 1] 31)).heap.size = w.heap.size + 3 := by simp
  simp only [World.size_alloc] at br bb
  go_enter Try.func61, Try.ntmps61
  go_wp2_with fail
  generalize ((w.alloc (.cells #[.slice A1 P.length c1, .slice A2 W.length c2, .slice A3 F.length c3] 28)).alloc (.cells #[.int .i64 0, .int .i64 0] 31)).alloc (.cells #[.int .i64 0, .int .i64 1] 31) = v at *
  refine (sets_c A1 P c1 A2 W c2 A3 F c3 x _ (h.below HB1 (Nat.le_refl _)) hk.arm.tree.par hk.arm.len hk.arm.n9 hx).mono ?_
  rintro e w2 ⟨A, c, rfl, hR, b2⟩
  rw [hsz] at hR
  have R0 : IxR w w2 (.slice A1 P.length c1) (.slice A2 W.length c2) (.slice A3 F.length c3) A (sts P x) (bsI (idxL P W F a b x) 0) :=
    ⟨bx.below b2, br.below b2, by rw [bsI_zero]; exact bb.below b2, hR, bUp HB1 b2 HB1.size⟩
  clear HB1 bx br bb hsz hR b2
  have hlen := sts_len hk.arm.n9 x
  go_wp2
  go_loopw [19] (fun i wr => ∃ k : Nat, k ≤ (sts P x).length ∧ i = .int .i64 (k : Int) ∧ IxR w wr (.slice A1 P.length c1) (.slice A2 W.length c2) (.slice A3 F.length c3) A (sts P x) (bsI (idxL P W F a b x) k)) (fun i _ => (sts P x).length - (intOf i).toNat)
  case atStart => exact ⟨0, Nat.zero_le _, rfl, R0⟩
  case round =>
    clear R0
    obtain ⟨k, hkl, rfl, R⟩ := hrel
    obtain ⟨wo, rfl⟩ : ∃ wo : World, wo = wr := ⟨_, rfl⟩
    by_cases hlt : k < (sts P x).length
    · have he : endB P x = false := by
        cases he : endB P x
        · rfl
        · rw [sts_end he] at hlt
          exact absurd hlt (by simp)
      obtain ⟨hkn, hn9, hfr, ht0, hgb, htb⟩ := sts_known hk hx hlt
      have HN := Lib.hid (idxL_nP (P := P) (W := W) (F := F) (a := a) (b := b) hlt)
      have HLW := Lib.hid (lw_of hfr)
      have HFB := Lib.hid (bsI_fr hk hx he hkl)
      have HFR := Lib.hid hfr
      have HKN := Lib.hid hkn
      clear hkn hfr
      obtain ⟨g, aS, cS, rfl, hcell, hrd, _, _⟩ := R.rows k hlt
      obtain ⟨f0, f1, f2, fz⟩ := id R.bx
      go_wp2_with fail
      refine (played_c A1 P c1 A2 W c2 A3 F c3 a b x (some aS) _ cS _ (h.below R.hb (Nat.le_refl _)) hk hx hrd hn9 HKN.out).mono ?_
      rintro e w3 ⟨rfl, b3⟩
      have R3 := R.below b3
      clear R f0 f1 f2 fz hcell hrd b3
      go_wp2_with fail
      refine (lowest_c _ _ (by omega) (by omega) ht0 (by omega) _).mono ?_
      rintro e w4 ⟨rfl, b4⟩
      have R4 := R3.below b4
      rw [HLW.out.1, HLW.out.2]
      clear R3 b4
      have HF : Hid (prS P W F a b x (lAt (sts P x) k) = (cutT (gnA P W F a b x (lAt (sts P x) k)) (tmA P W a b x (lAt (sts P x) k)), cutB (gnA P W F a b x (lAt (sts P x) k)) (tmA P W a b x (lAt (sts P x) k)))) := Lib.hid rfl
      generalize cutT (gnA P W F a b x (lAt (sts P x) k)) (tmA P W a b x (lAt (sts P x) k)) = s at *
      generalize cutB (gnA P W F a b x (lAt (sts P x) k)) (tmA P W a b x (lAt (sts P x) k)) = t at *
      obtain ⟨q0, q1, q2, q3, q4⟩ := id R4.bb
      have bf := Bx.new w4 (.int .i64 s) (.int .i64 t) 31
      have R5 := R4.below ((Below.refl _ _).alloc (Nat.le_refl _) (.cells #[.int .i64 s, .int .i64 t] 31))
      rcases Nat.eq_zero_or_pos k with rfl | hk0
      · have R6 := (R4.set s t).below ((Below.refl _ _).alloc (Nat.le_refl _) (.cells #[.int .i64 s, .int .i64 t] 31))
        go_wp2
        go_roundw
        case rel => exact ⟨1, by omega, by first | rfl | go_num, by rw [bsI_one, HN.out, HF.out]; exact R6⟩
        case measure => simp [intOf] <;> omega
      · have e0 : ((k : Int) == 0) = false := by simp; omega
        have bF := frP_iff.1 HFB.out
        have bS := frP_iff.1 HFR.out
        rw [HF.out] at bS
        simp only at bS
        have HBE : Hid (betP true (s, t) (bsI (idxL P W F a b x) k) = true → bsI (idxL P W F a b x) (k + 1) = (s, t)) := Lib.hid fun hb => by
          rw [bsI_yes hk0 (by rw [HN.out, HF.out]; exact hb), HN.out, HF.out]
        have HBN : Hid (¬ betP true (s, t) (bsI (idxL P W F a b x) k) = true → bsI (idxL P W F a b x) (k + 1) = bsI (idxL P W F a b x) k) := Lib.hid fun hb => bsI_no hk0 (by rw [HN.out, HF.out]; exact hb)
        clear R4
        go_wp2_with fail
        refine (compared_c s t _ _ (by omega) (by omega) (by omega) (by omega) _).mono ?_
        rintro e w6 ⟨rfl, b6⟩
        have R6 := R5.below b6
        have hc := cmp_up (f := (s, t)) (g := ((bsI (idxL P W F a b x) k).1, (bsI (idxL P W F a b x) k).2))
        have bf6 := bf.below b6
        obtain ⟨u0, u1, _, _, u4⟩ := id bf6
        obtain ⟨p0, p1, p2, p3, p4⟩ := id R6.bb
        by_cases hb : betP true (s, t) (bsI (idxL P W F a b x) k) = true
        · have HB2 := Lib.hid (HBE.out hb)
          have hq : 0 < cmpI (s, t) ((bsI (idxL P W F a b x) k).1, (bsI (idxL P W F a b x) k).2) := by rw [gt_iff_lt] at hc; rw [hc]; exact hb
          clear hc hb
          generalize cmpI (s, t) ((bsI (idxL P W F a b x) k).1, (bsI (idxL P W F a b x) k).2) = q at *
          have R7 := R6.set s t
          clear R5 R6 q0 q1 q2 q3 q4
          go_wp2
          go_roundw
          case rel => exact ⟨k + 1, by omega, by go_num, by rw [HB2.out]; exact R7⟩
          case measure => simp [intOf] <;> omega
        · have HB2 := Lib.hid (HBN.out hb)
          have hq : ¬ 0 < cmpI (s, t) ((bsI (idxL P W F a b x) k).1, (bsI (idxL P W F a b x) k).2) := by rw [gt_iff_lt] at hc; rw [hc]; exact hb
          clear hc hb
          generalize cmpI (s, t) ((bsI (idxL P W F a b x) k).1, (bsI (idxL P W F a b x) k).2) = q at *
          clear R5 q0 q1 q2 q3 q4
          go_wp2
          go_roundw
          case rel => exact ⟨k + 1, by omega, by go_num, by rw [HB2.out]; exact R6⟩
          case measure => simp [intOf] <;> omega
    · obtain rfl : k = (sts P x).length := by omega
      have HA := Lib.hid (bsI_all (P := P) (W := W) (F := F) (a := a) (b := b) (x := x))
      obtain ⟨q0, q1, q2, q3, q4⟩ := id R.bb
      obtain ⟨r0, r1, r2, r3, r4⟩ := id R.br
      rw [HA.out] at q0 q1
      go_wp2
      exact bodyPost_ret (v := .agg #[.int .i64 (idxP P W F a b x).1, .int .i64 (idxP P W F a b x).2]) (by simp [results, Try.results61, go_sem, r0, r1]) rfl ⟨rfl, by with_reducible repeat (first | exact R.hb | refine Below.setCell ?_ (by simp <;> omega) _)⟩

theorem neB_wt {P W F : List Int} (h : ArmOk P W F) {y : Nat} (hy : y < P.length) {q : Bool} (he : endB P y = q) : (nth W y == 0) = !q := by
  have := h.tree.wt y hy
  subst he
  cases hb : endB P y
  · rw [hb, if_neg (by simp)] at this
    simp [this]
  · rw [hb, if_pos rfl] at this
    simp; omega
set_option maxRecDepth 20000 in
set_option maxHeartbeats 4000000 in
theorem l8Less_c (A1 : Option Addr) (P : List Int) (c1 : Nat) (A2 : Option Addr) (W : List Int) (c2 : Nat) (A3 : Option Addr) (F : List Int) (c3 : Nat) (a b fee : Int) (hk : ArmAB P W F a b) (hf : -99 ≤ fee ∧ fee ≤ 99) :
    ∀ (n x : Nat) (w : World), P.length ≤ x + n → x < P.length → RdM w A1 P A2 W A3 F →
    Calls Try.prog 70 #[mkV A1 P.length c1 A2 W.length c2 A3 F.length c3, .int .i64 a, .int .i64 b, .int .i64 fee, .int .i64 (x : Int)] w (Quietly w (.int .i64 (lsF P W F a b fee x))) := by
  intro n
  induction n with
  | zero => intro x w h1 h2; omega
  | succ n ih =>
    intro x w hn hx h
    have HB1 : Below w.heap.size w (w.alloc (.cells #[.slice A1 P.length c1, .slice A2 W.length c2, .slice A3 F.length c3] 28)) := (Below.refl _ _).alloc (Nat.le_refl _) _
    have bx := Bx3.new w (.slice A1 P.length c1) (.slice A2 W.length c2) (.slice A3 F.length c3) 28
    have hok := hk.arm
    have hn1 := hok.tree.n1
    have hn2 := hok.tree.n2
    have hn9 := hok.n9
    have hpar := hok.tree.par
    have HFL := Lib.hid hok.len
    have HWL := Lib.hid hok.tree.len
    have HN := Lib.hid hn
    have i0 : (0 : Int) ≤ (x : Int) := by omega
    have i1 : (x : Int) < (P.length : Int) := by omega
    have hkl9 : (kids P (x : Int)).length ≤ 9 := Nat.le_trans (kidTo_len P x P.length) hn9
    have hb0 := hk.b0
    have hb4 := hk.b4
    clear hn
    go_enter Try.func70, Try.ntmps70
    go_upto_region 1 with fail
    generalize w.alloc (.cells #[.slice A1 P.length c1, .slice A2 W.length c2, .slice A3 F.length c3] 28) = v at *
    obtain ⟨f0, f1, f2, fz⟩ := id bx
    obtain ⟨a3, rfl, q3⟩ := (h.below HB1 (Nat.le_refl _)).r3.intN (k := x) (by rw [HFL.out]; exact hx)
    have i2 : (x : Int) < (F.length : Int) := by rw [HFL.out]; omega
    have bF := hok.fb x
    have bU := unitX_46 hok hb0 hb4 hx
    have bFU := fU_bd hk hf hx
    have e1 : IntKind.i64.wrap (nth F x - fee) = nth F x - fee := IntWalk.i64_in _ (by omega)
    have e2 : IntKind.i64.wrap ((nth F x - fee) * unitX P W b x) = (nth F x - fee) * unitX P W b x := IntWalk.i64_in _ (by omega)
    have h' := h.below (Below.drew HB1) (Nat.le_refl _)
    have hd1 : Below v.heap.size v v.drew := Below.drew (Below.refl _ _)
    have SK1 : Hid (∀ w', Below v.heap.size v w' → w'.cell? ⟨w.heap.size, 0, none⟩ = some (.slice A1 P.length c1) ∧ w'.cell? ⟨w.heap.size, 1, none⟩ = some (.slice A2 W.length c2) ∧ w'.cell? ⟨w.heap.size, 2, none⟩ = some (.slice (some a3) F.length c3) ∧ w'.cell? (a3.add x) = some (.int .i64 (nth F x))) := Lib.hid fun w' HV => ⟨(HV.cell (p := ⟨w.heap.size, 0, none⟩) fz).trans f0, (HV.cell (p := ⟨w.heap.size, 1, none⟩) fz).trans f1, (HV.cell (p := ⟨w.heap.size, 2, none⟩) fz).trans f2, (HV.cell (cell_lt q3)).trans q3⟩
    clear f0 f1 f2 q3
    have hS1_0 := SK1.out _ hd1
    refine tamed_region (S := fun w' => w'.cell? ⟨w.heap.size, 0, none⟩ = some (.slice A1 P.length c1) ∧ w'.cell? ⟨w.heap.size, 1, none⟩ = some (.slice A2 W.length c2) ∧ w'.cell? ⟨w.heap.size, 2, none⟩ = some (.slice (some a3) F.length c3) ∧ w'.cell? (a3.add x) = some (.int .i64 (nth F x))) (fun _ => false) (by kernel_rfl) ?_
    refine tame0 (k := 0) ?_ rfl (by kernel_rfl) (by kernel_rfl) (by kernel_rfl) (fun _ _ _ h => h) (by kernel_rfl) (fun v => ?_) ?_
    rotate_left
    · (go_simp; all_goals rfl)
    simp only [Act.put, List.setIfInBounds_toArray]
    refine tame (k := 1) ?_ rfl (by kernel_rfl) (by kernel_rfl) (by kernel_rfl) (by kernel_rfl) (fun _ _ _ h => h) (by kernel_rfl) hS1_0 (fun v hv => ?_) ?_
    rotate_left
    · (obtain ⟨k1, k2, k3, k4⟩ := hv; go_simp; all_goals rfl)
    simp only [Act.put]
    refine tame0 (k := 2) ?_ rfl (by kernel_rfl) (by kernel_rfl) (by kernel_rfl) (fun _ _ _ h => h) (by kernel_rfl) (fun v => ?_) ?_
    rotate_left
    · (go_simp; all_goals rfl)
    simp only [Act.put]
    refine tame0 (k := 3) ?_ rfl (by kernel_rfl) (by kernel_rfl) (by kernel_rfl) (fun _ _ _ h => h) (by kernel_rfl) (fun v => ?_) ?_
    rotate_left
    · (go_simp; all_goals rfl)
    simp only [Act.put]
    refine tame (k := 4) ?_ rfl (by kernel_rfl) (by kernel_rfl) (by kernel_rfl) (by kernel_rfl) (fun _ _ _ h => h) (by kernel_rfl) hS1_0 (fun v hv => ?_) ?_
    rotate_left
    · (obtain ⟨k1, k2, k3, k4⟩ := hv; go_simp; all_goals rfl)
    simp only [Act.put]
    refine tame0 (k := 5) ?_ rfl (by kernel_rfl) (by kernel_rfl) (by kernel_rfl) (fun _ _ _ h => h) (by kernel_rfl) (fun v => ?_) ?_
    rotate_left
    · (go_simp; all_goals rfl)
    simp only [Act.put]
    refine tame0 (k := 6) ?_ rfl (by kernel_rfl) (by kernel_rfl) (by kernel_rfl) (fun _ _ _ h => h) (by kernel_rfl) (fun v => ?_) ?_
    rotate_left
    · (go_simp; all_goals rfl)
    simp only [Act.put]
    refine tame (k := 7) ?_ rfl (by kernel_rfl) (by kernel_rfl) (by kernel_rfl) (by kernel_rfl) (fun _ _ _ h => h) (by kernel_rfl) hS1_0 (fun v hv => ?_) ?_
    rotate_left
    · (obtain ⟨k1, k2, k3, k4⟩ := hv; go_simp; all_goals rfl)
    simp only [Act.put]
    refine tame0 (k := 8) ?_ rfl (by kernel_rfl) (by kernel_rfl) (by kernel_rfl) (fun _ _ _ h => h) (by kernel_rfl) (fun v => ?_) ?_
    rotate_left
    · (go_simp; all_goals rfl)
    simp only [Act.put]
    refine tame0 (k := 10) ?_ rfl (by kernel_rfl) (by kernel_rfl) (by kernel_rfl) (fun _ _ _ h => h) (by kernel_rfl) (fun v => ?_) ?_
    rotate_left
    · (go_simp; all_goals rfl)
    simp only [Act.put]
    refine tame0 (k := 14) ?_ rfl (by kernel_rfl) (by kernel_rfl) (by kernel_rfl) (fun _ _ _ h => h) (by kernel_rfl) (fun v => ?_) ?_
    rotate_left
    · (go_simp; all_goals rfl)
    simp only [Act.put]
    refine tame (k := 15) ?_ rfl (by kernel_rfl) (by kernel_rfl) (by kernel_rfl) (by kernel_rfl) (fun _ _ _ h => h) (by kernel_rfl) hS1_0 (fun v hv => ?_) ?_
    rotate_left
    · (obtain ⟨k1, k2, k3, k4⟩ := hv; go_simp; all_goals rfl)
    simp only [Act.put]
    refine tame0 (k := 16) ?_ rfl (by kernel_rfl) (by kernel_rfl) (by kernel_rfl) (fun _ _ _ h => h) (by kernel_rfl) (fun v => ?_) ?_
    rotate_left
    · (go_simp; all_goals rfl)
    simp only [Act.put]
    refine tame_one (k := 9) (by kernel_rfl) rfl (by kernel_rfl) ?_
    go_simp
    refine (l8Units_c A1 P c1 A2 W c2 (some a3) F c3 b _ h'.r1 h'.r2 hok hb0 hb4 _).mono ?_
    rintro e w5 ⟨Au, cu, rfl, ou, b5⟩
    have hd1_1 := bUp hd1 b5 (Nat.le_refl _)
    have hS1_1 := Lib.hid (SK1.out _ hd1_1)
    refine ⟨by first | exact hS1_1 | exact Hid.out hS1_1, ?_⟩
    have HUL := Lib.hid (unitL_length P W b)
    obtain ⟨gu, rfl, hgu, hgu2⟩ := ou.form (by rw [HUL.out]; omega)
    have qu := ou.cellN (k := x) (by rw [HUL.out]; exact hx)
    rw [unitL_nth hx] at qu
    have h5 := h'.below b5 (Nat.le_refl _)
    have SK1m : Hid (∀ w', Below w5.heap.size w5 w' → (w'.cell? ⟨w.heap.size, 0, none⟩ = some (.slice A1 P.length c1) ∧ w'.cell? ⟨w.heap.size, 1, none⟩ = some (.slice A2 W.length c2) ∧ w'.cell? ⟨w.heap.size, 2, none⟩ = some (.slice (some a3) F.length c3) ∧ w'.cell? (a3.add x) = some (.int .i64 (nth F x))) ∧ w'.cell? ⟨gu, x, none⟩ = some (.int .i64 (unitX P W b x))) := Lib.hid fun w' HV => ⟨SK1.out _ (bUp hd1_1 HV hd1_1.size), (HV.cell (p := ⟨gu, x, none⟩) hgu2).trans qu⟩
    clear qu
    have hm1_1 : Below w5.heap.size w5 w5 := Below.refl _ _
    have hS1_1m := SK1m.out _ hm1_1
    refine Tamed.more (S2 := fun w' => (w'.cell? ⟨w.heap.size, 0, none⟩ = some (.slice A1 P.length c1) ∧ w'.cell? ⟨w.heap.size, 1, none⟩ = some (.slice A2 W.length c2) ∧ w'.cell? ⟨w.heap.size, 2, none⟩ = some (.slice (some a3) F.length c3) ∧ w'.cell? (a3.add x) = some (.int .i64 (nth F x))) ∧ w'.cell? ⟨gu, x, none⟩ = some (.int .i64 (unitX P W b x))) (fun _ => rfl) (fun _ h => h.1) _ _ _ _ hS1_1m ?_
    refine tame0 (k := 11) ?_ rfl (by kernel_rfl) (by kernel_rfl) (by kernel_rfl) (fun _ _ _ h => h) (by kernel_rfl) (fun v => ?_) ?_
    rotate_left
    · (go_simp; all_goals rfl)
    simp only [Act.put]
    refine tame (k := 12) ?_ rfl (by kernel_rfl) (by kernel_rfl) (by kernel_rfl) (by kernel_rfl) (fun _ _ _ h => h) (by kernel_rfl) hS1_1m (fun v hv => ?_) ?_
    rotate_left
    · (obtain ⟨⟨k1, k2, k3, k4⟩, k5⟩ := hv; go_simp; all_goals rfl)
    simp only [Act.put]
    refine tame0 (k := 13) ?_ rfl (by kernel_rfl) (by kernel_rfl) (by kernel_rfl) (fun _ _ _ h => h) (by kernel_rfl) (fun v => ?_) ?_
    rotate_left
    · (go_simp; all_goals rfl)
    simp only [Act.put]
    refine tame_one (k := 17) (by kernel_rfl) rfl (by kernel_rfl) ?_
    go_simp
    refine (l2Kids_c A1 P c1 A2 W.length c2 x _ h5.r1 hpar hx hn2).mono ?_
    rintro e w6 ⟨Ak, ck, rfl, ok, b6⟩
    have hd1_2 := bUp hm1_1 b6 (Nat.le_refl _)
    have hS1_2 := Lib.hid (SK1m.out _ hd1_2)
    refine ⟨by first | exact hS1_2 | exact Hid.out hS1_2, ?_⟩
    have ok6 := ok.mono (B' := w.heap.size + 1) (Nat.le_trans fz b5.size)
    have HB6 := HB1.trans (((Below.drew (Below.refl v.heap.size v)).trans (b5.trans (b6.mono b5.size))).mono HB1.size)
    have bx6 := (bx.below ((Below.drew (Below.refl v.heap.size v)).trans (b5.trans (b6.mono b5.size))))
    refine tame_one (k := 18) (by kernel_rfl) rfl (by kernel_rfl) ?_
    go_simp
    refine ⟨by first | exact hS1_2 | exact Hid.out hS1_2, ?_⟩
    refine tame_one (k := 19) (by kernel_rfl) rfl (by kernel_rfl) ?_
    go_simp
    refine ⟨by first | exact hS1_2 | exact Hid.out hS1_2, ?_⟩
    refine tame_end (by kernel_rfl) ?_
    clear ok b5 b6 ou h5 h' bx HB1 e1 e2 SK1 SK1m hd1 hd1_1 hm1_1 hS1_0 hS1_1 hS1_1m hd1_2 hS1_2
    go_wp2_with fail
    go_loopw [11, 13] (fun s i wr => ∃ k : Nat, k ≤ (kids P (x : Int)).length ∧ i = .int .i64 (k : Int) ∧ s = .int .i64 (lsK P W F a b fee x k) ∧ Own wr (w.heap.size + 1) Ak ck (kids P (x : Int)) ∧ Bx3 wr w.heap.size (.slice A1 P.length c1) (.slice A2 W.length c2) (.slice (some a3) F.length c3) ∧ Below w.heap.size w wr) (fun _ i _ => (kids P (x : Int)).length - (intOf i).toNat)
    case atStart => exact ⟨0, by omega, rfl, by rw [lsK_zero], ok6, bx6, HB6⟩
    case round =>
      clear ok6 bx6 HB6
      obtain ⟨k, hkl, rfl, rfl, okk, bx, HB⟩ := hrel
      obtain ⟨wo, rfl⟩ : ∃ wo : World, wo = wr := ⟨_, rfl⟩
      by_cases hlt : k < (kids P (x : Int)).length
      · obtain ⟨f0, f1, f2, fz⟩ := id bx
        have j1 : (k : Int) < ((kids P (x : Int)).length : Int) := by omega
        have j0 : (0 : Int) ≤ (k : Int) := by omega
        obtain ⟨gk, rfl, hgk, hgk2⟩ := okk.form (by omega)
        have qk := okk.cellN hlt
        obtain ⟨y, hy, hxy, hyl, hpy⟩ := kid_at hpar hlt
        rw [hy] at qk
        obtain ⟨a2, rfl, q2⟩ := (h.below HB (Nat.le_refl _)).r2.intN (k := y) (by rw [HWL.out]; exact hyl)
        have y0 : (0 : Int) ≤ (y : Int) := by omega
        have y1 : (y : Int) < (W.length : Int) := by rw [HWL.out]; omega
        have HY := Lib.hid hy
        have hob := lsK_bd hk hf hx k hkl
        clear hy hpy
        cases hey : endB P y
        · have e1 := neB_wt hok hyl hey
          have HS := Lib.hid (lsK_in (W := W) (F := F) (a := a) (b := b) (fee := fee) HY.out hey)
          have ha := aLs_bd hk hf hyl
          have hob1 : Hid (IntKind.i64.wrap (lsK P W F a b fee x k + a * mxI (lsF P W F a b fee y) 0) = lsK P W F a b fee x k + a * mxI (lsF P W F a b fee y) 0) := Lib.hid (IntWalk.i64_in _ (by omega))
          have hob2 : Hid (IntKind.i64.wrap (a * mxI (lsF P W F a b fee y) 0) = a * mxI (lsF P W F a b fee y) 0) := Lib.hid (IntWalk.i64_in _ (by omega))
          clear hey
          go_wp2
          go_quiet (fail)
          rename_i nq
          go_upto_region 6 with fail
          obtain ⟨v, hv⟩ : ∃ v, v = wo.drewN nq := ⟨_, rfl⟩
          rw [← hv]
          have D : Dr wo v := ⟨nq, hv⟩
          have okv := okk.dr D
          have HBv := D.below HB
          have bxv := bx3_dr bx D
          clear hv D f0 f1 f2 fz q2 qk okk HB bx
          obtain ⟨f0, f1, f2, fz⟩ := id bxv
          have qk := okv.cellN hlt
          rw [HY.out] at qk
          have hgk3 := (okv.lt _ rfl).2
          have e2 := hob1.out
          have e3 := hob2.out
          have hd2 : Below v.heap.size v v.drew := Below.drew (Below.refl _ _)
          have SK2 : Hid (∀ w', Below v.heap.size v w' → w'.cell? ⟨w.heap.size, 0, none⟩ = some (.slice A1 P.length c1) ∧ w'.cell? ⟨w.heap.size, 1, none⟩ = some (.slice (some a2) W.length c2) ∧ w'.cell? ⟨w.heap.size, 2, none⟩ = some (.slice (some a3) F.length c3) ∧ w'.cell? ⟨gk, k, none⟩ = some (.int .i64 (y : Int))) := Lib.hid fun w' HV => ⟨(HV.cell (p := ⟨w.heap.size, 0, none⟩) fz).trans f0, (HV.cell (p := ⟨w.heap.size, 1, none⟩) fz).trans f1, (HV.cell (p := ⟨w.heap.size, 2, none⟩) fz).trans f2, (HV.cell (p := ⟨gk, k, none⟩) hgk3).trans qk⟩
          clear f0 f1 f2 qk
          have hS2_0 := SK2.out _ hd2
          refine tamed_region (S := fun w' => w'.cell? ⟨w.heap.size, 0, none⟩ = some (.slice A1 P.length c1) ∧ w'.cell? ⟨w.heap.size, 1, none⟩ = some (.slice (some a2) W.length c2) ∧ w'.cell? ⟨w.heap.size, 2, none⟩ = some (.slice (some a3) F.length c3) ∧ w'.cell? ⟨gk, k, none⟩ = some (.int .i64 (y : Int))) (fun _ => false) (by kernel_rfl) ?_
          refine tame0 (k := 0) ?_ rfl (by kernel_rfl) (by kernel_rfl) (by kernel_rfl) (fun _ _ _ h => h) (by kernel_rfl) (fun v => ?_) ?_
          rotate_left
          · (go_simp; all_goals rfl)
          simp only [Act.put, List.setIfInBounds_toArray]
          refine tame0 (k := 1) ?_ rfl (by kernel_rfl) (by kernel_rfl) (by kernel_rfl) (fun _ _ _ h => h) (by kernel_rfl) (fun v => ?_) ?_
          rotate_left
          · (go_simp; all_goals rfl)
          simp only [Act.put]
          refine tame (k := 2) ?_ rfl (by kernel_rfl) (by kernel_rfl) (by kernel_rfl) (by kernel_rfl) (fun _ _ _ h => h) (by kernel_rfl) hS2_0 (fun v hv => ?_) ?_
          rotate_left
          · (obtain ⟨k1, k2, k3, k4⟩ := hv; go_simp; all_goals rfl)
          simp only [Act.put]
          refine tame0 (k := 3) ?_ rfl (by kernel_rfl) (by kernel_rfl) (by kernel_rfl) (fun _ _ _ h => h) (by kernel_rfl) (fun v => ?_) ?_
          rotate_left
          · (go_simp; all_goals rfl)
          simp only [Act.put]
          refine tame0 (k := 4) ?_ rfl (by kernel_rfl) (by kernel_rfl) (by kernel_rfl) (fun _ _ _ h => h) (by kernel_rfl) (fun v => ?_) ?_
          rotate_left
          · (go_simp; all_goals rfl)
          simp only [Act.put]
          refine tame0 (k := 5) ?_ rfl (by kernel_rfl) (by kernel_rfl) (by kernel_rfl) (fun _ _ _ h => h) (by kernel_rfl) (fun v => ?_) ?_
          rotate_left
          · (go_simp; all_goals rfl)
          simp only [Act.put]
          refine tame0 (k := 6) ?_ rfl (by kernel_rfl) (by kernel_rfl) (by kernel_rfl) (fun _ _ _ h => h) (by kernel_rfl) (fun v => ?_) ?_
          rotate_left
          · (go_simp; all_goals rfl)
          simp only [Act.put]
          refine tame0 (k := 7) ?_ rfl (by kernel_rfl) (by kernel_rfl) (by kernel_rfl) (fun _ _ _ h => h) (by kernel_rfl) (fun v => ?_) ?_
          rotate_left
          · (go_simp; all_goals rfl)
          simp only [Act.put]
          refine tame0 (k := 8) ?_ rfl (by kernel_rfl) (by kernel_rfl) (by kernel_rfl) (fun _ _ _ h => h) (by kernel_rfl) (fun v => ?_) ?_
          rotate_left
          · (go_simp; all_goals rfl)
          simp only [Act.put]
          refine tame (k := 9) ?_ rfl (by kernel_rfl) (by kernel_rfl) (by kernel_rfl) (by kernel_rfl) (fun _ _ _ h => h) (by kernel_rfl) hS2_0 (fun v hv => ?_) ?_
          rotate_left
          · (obtain ⟨k1, k2, k3, k4⟩ := hv; go_simp; all_goals rfl)
          simp only [Act.put]
          refine tame_one (k := 10) (by kernel_rfl) rfl (by kernel_rfl) ?_
          go_simp
          refine (ih y _ (by have := HN.out; omega) hyl (h.below (Below.drew HBv) (Nat.le_refl _))).mono ?_
          rintro e w5 ⟨rfl, b5⟩
          have hd2_1 := bUp hd2 b5 (Nat.le_refl _)
          have hS2_1 := Lib.hid (SK2.out _ hd2_1)
          refine ⟨by first | exact hS2_1 | exact Hid.out hS2_1, ?_⟩
          refine tame_one (k := 11) (by kernel_rfl) rfl (by kernel_rfl) ?_
          go_simp
          refine (l1Most_is _ _ _ rfl _).mono ?_
          rintro e w6 ⟨rfl, rfl⟩
          refine ⟨by first | exact hS2_1 | exact Hid.out hS2_1, ?_⟩
          refine tame_one (k := 12) (by kernel_rfl) rfl (by kernel_rfl) ?_
          go_simp
          refine ⟨by first | exact hS2_1 | exact Hid.out hS2_1, ?_⟩
          refine tame_one (k := 13) (by kernel_rfl) rfl (by kernel_rfl) ?_
          go_simp
          refine ⟨by first | exact hS2_1 | exact Hid.out hS2_1, ?_⟩
          rw [← HS.out]
          refine tame_one (k := 14) (by kernel_rfl) rfl (by kernel_rfl) ?_
          go_simp
          refine ⟨by first | exact hS2_1 | exact Hid.out hS2_1, ?_⟩
          refine tame_end (by kernel_rfl) ?_
          have H5 := (Below.drew (Below.refl v.heap.size v)).trans b5
          clear SK2 hd2 hd2_1 hS2_0 hS2_1 e1 e2 e3
          go_wp2_with fail
          go_roundw
          case rel => exact ⟨k + 1, hlt, by go_num, rfl, okv.below H5, bxv.below H5, HBv.trans (H5.mono HBv.size)⟩
          case measure => simp [intOf] <;> omega
        · have e1 := neB_wt hok hyl hey
          have HS := Lib.hid (lsK_end (W := W) (F := F) (a := a) (b := b) (fee := fee) HY.out hey)
          clear hey
          go_wp2
          go_quiet (fail)
          go_wp2
          rename_i nq
          have D : Dr wo (wo.drewN nq) := ⟨nq, rfl⟩
          go_roundw
          case rel => exact ⟨k + 1, hlt, by go_num, by rw [HS.out], okk.dr D, bx3_dr bx D, D.below HB⟩
          case measure => simp [intOf] <;> omega
      · obtain rfl : k = (kids P (x : Int)).length := by omega
        have HV := Lib.hid (lsK_all (W := W) (F := F) (a := a) (b := b) hpar (fee := fee) hx)
        go_wp2
        go_ret
        exact ⟨by rw [HV.out] <;> rfl, HB⟩

set_option maxRecDepth 20000 in
set_option maxHeartbeats 1000000 in
theorem l2WayN_c (A1 : Option Addr) (P : List Int) (c1 : Nat) (A2 : Option Addr) (n2 c2 : Nat) (x : Nat) (w : World) (h1 : Rd w A1 (ints P)) (hp : ParOk P) (hx : x < P.length) (hn : P.length ≤ 24) :
    Calls Try.prog 100 #[trV A1 P.length c1 A2 n2 c2, .int .i64 (x : Int)] w fun e w' => ∃ (A : Option Addr) (c : Nat), e = .returned (.slice A (dpN P x + 1) c) ∧ Below w.heap.size w w' := by
  have HB1 : Below w.heap.size w ((w.alloc (.cells #[.slice A1 P.length c1, .slice A2 n2 c2] 26)).alloc (.cells #[.int .i64 (x : Int)] 3)) := ((Below.refl _ _).alloc (Nat.le_refl _) _).alloc (by simp) _
  have bx := (Bx.new w (.slice A1 P.length c1) (.slice A2 n2 c2) 26).alloc (.cells #[.int .i64 (x : Int)] 3)
  have O0 : Own ((w.alloc (.cells #[.slice A1 P.length c1, .slice A2 n2 c2] 26)).alloc (.cells #[.int .i64 (x : Int)] 3)) (w.heap.size + 1) (some ⟨w.heap.size + 1, 0, none⟩) 1 [(x : Int)] := by
    have := Own.lit (w.alloc (.cells #[.slice A1 P.length c1, .slice A2 n2 c2] 26)) [(x : Int)] (by simp)
    simpa [ints] using this
  have d24 : ∀ y, y < P.length → dpN P y ≤ P.length := fun y _ => by have := dep_bd P y; unfold dpN; omega
  have HD := Lib.hid d24
  clear d24
  go_enter Try.func100, Try.ntmps100
  go_wp2
  go_loopw [1, 5] (fun t s wr => ∃ (y : Nat) (A : Option Addr) (c : Nat) (xs : List Int), y < P.length ∧ t = .int .i64 (y : Int) ∧ s = .slice A xs.length c ∧ xs.length + dpN P y = dpN P x + 1 ∧ Own wr (w.heap.size + 1) A c xs ∧ Bx wr w.heap.size (.slice A1 P.length c1) (.slice A2 n2 c2) ∧ Below w.heap.size w wr) (fun t _ _ => (intOf t).toNat)
  case atStart => exact ⟨x, _, _, [(x : Int)], hx, rfl, rfl, by simp; omega, O0, bx, HB1⟩
  case round =>
    clear O0 bx HB1
    obtain ⟨wo, rfl⟩ : ∃ wo : World, wo = wr := ⟨_, rfl⟩
    obtain ⟨y, A, c, xs, hy, rfl, rfl, hl, ho, hb, hB⟩ := hrel
    obtain ⟨f0, f1, f2, f3, f4⟩ := id hb
    by_cases hy0 : 0 < y
    · obtain ⟨p, hpy, hlt⟩ := par_of hp hy0 hy
      have hdp := (dpN_kid hp hy hpy).2
      have hlen : xs.length ≤ 48 := by have := HD.out x hx; omega
      have HL : Hid (1 + xs.length + dpN P p = dpN P x + 1) := Lib.hid (by omega)
      obtain ⟨a1, rfl, q1⟩ := (h1.below hB (Nat.le_refl _)).intN (k := y) hy
      rw [hpy] at q1
      have i1 : (0 : Int) < (y : Int) := by omega
      have O1 : Own (wo.alloc (.cells #[.int .i64 (p : Int)] 3)) wo.heap.size (some ⟨wo.heap.size, 0, none⟩) 1 [(p : Int)] := by
        have := Own.lit wo [(p : Int)] (by simp)
        simpa [ints] using this
      have hsz : w.heap.size + 1 ≤ wo.heap.size := f4
      have r1 := ho.rd.alloc (.cells #[.int .i64 (p : Int)] 3)
      have hba := hb.alloc (.cells #[.int .i64 (p : Int)] 3)
      have hBa := hB.alloc hB.size (.cells #[.int .i64 (p : Int)] 3)
      clear hpy hdp hl
      go_wp2_with (at_builtin; refine wp_append_ints _ rfl _ _ rfl wo.heap.size _ 1 1 [(p : Int)] rfl rfl O1 A xs.length c xs rfl rfl r1 (by simp; omega) (by simp) ?_; intro A2 c2 w2 ho2 hg2 hb2)
      have hx2 := hba.grown hg2 (by simp only [blk, Option.map_some, ne_eq, Option.some.injEq]; omega)
      have HB2 := hBa.grown hg2 hBa.size (fun k hk => by simp only [blk, Option.map_some, Option.some.injEq] at hk; omega)
      go_roundw
      case rel => exact ⟨p, A2, c2, [(p : Int)] ++ xs, by omega, rfl, by rw [List.length_append]; rfl, by rw [List.length_append]; exact HL.out, ho2.mono hsz, hx2, HB2⟩
      case measure => simp [intOf] <;> omega
    · obtain rfl : y = 0 := by omega
      have hl' : xs.length = dpN P x + 1 := by rw [dpN_zero] at hl; omega
      have HL := Lib.hid hl'
      clear hl hl'
      go_wp2
      go_ret
      exact ⟨A, c, by rw [← HL.out] <;> rfl, hB⟩
/-- The state while a node's children are seen. -/
structure PaR (w wr : World) (g : Nat) (f : Int × Int) (x y z : Value) (Ak : Option Addr) (ck : Nat) (L : List Int) : Prop where
  bx : Bx3 wr w.heap.size x y z
  br : Bx wr (w.heap.size + 1) (.int .i64 0) (.int .i64 0)
  bg : Bx wr g (.int .i64 f.1) (.int .i64 f.2)
  ok : Own wr (w.heap.size + 1) Ak ck L
  nk : blk Ak ≠ some g
  hg : w.heap.size + 1 < g
  hb : Below w.heap.size w wr
section
variable {w wr wr' : World} {g ck : Nat} {f : Int × Int} {x y z : Value} {Ak : Option Addr} {L : List Int}
theorem PaR.below (h : PaR w wr g f x y z Ak ck L) (b : Below wr.heap.size wr wr') : PaR w wr' g f x y z Ak ck L :=
  ⟨h.bx.below b, h.br.below b, h.bg.below b, h.ok.below b, h.nk, h.hg, bUp h.hb b h.hb.size⟩
theorem PaR.dr (h : PaR w wr g f x y z Ak ck L) (d : Dr wr wr') : PaR w wr' g f x y z Ak ck L :=
  ⟨bx3_dr h.bx d, h.br.dr d, h.bg.dr d, h.ok.dr d, h.nk, h.hg, d.below h.hb⟩
theorem PaR.set (h : PaR w wr g f x y z Ak ck L) (s t : Int) : PaR w ((wr.setCell ⟨g, 0, none⟩ (.int .i64 s)).setCell ⟨g, 1, none⟩ (.int .i64 t)) g (s, t) x y z Ak ck L := by
  have hG : wr.grownBy ((wr.setCell ⟨g, 0, none⟩ (.int .i64 s)).setCell ⟨g, 1, none⟩ (.int .i64 t)) (some g) := (grown_setCell wr ⟨g, 0, none⟩ _).trans (grown_setCell _ ⟨g, 1, none⟩ _)
  have := h.hg
  exact ⟨h.bx.grown hG (by omega), h.br.grown hG (by simp; omega), by simpa using bx_put h.bg (.int .i64 s) (.int .i64 t), h.ok.grown hG (.inr h.nk), h.nk, h.hg, h.hb.grown hG h.hb.size (fun k hk => by injection hk with hk; omega)⟩
end
set_option maxRecDepth 20000 in
set_option maxHeartbeats 4000000 in
theorem l8Pair_c (A1 : Option Addr) (P : List Int) (c1 : Nat) (A2 : Option Addr) (W : List Int) (c2 : Nat) (A3 : Option Addr) (F : List Int) (c3 : Nat) (a b : Int) (hk : ArmAB P W F a b) (gi ci Bi : Nat) (bs : List Bool) (hbs : bs.length = P.length) :
    ∀ (n x : Nat) (w : World), P.length ≤ x + n → x < P.length → RdM w A1 P A2 W A3 F → OwnB w Bi (some ⟨gi, 0, none⟩) ci bs →
    Calls Try.prog 58 #[mkV A1 P.length c1 A2 W.length c2 A3 F.length c3, .int .i64 a, .int .i64 b, .slice (some ⟨gi, 0, none⟩) P.length ci, .int .i64 (x : Int)] w (Quietly w (.agg #[.int .i64 (gnR P W F a b (nthB bs) x), .int .i64 (tmR P W a b (nthB bs) x)])) := by
  intro n
  induction n with
  | zero => intro x w h1 h2; omega
  | succ n ih =>
    intro x w hn hx h hob
    have HB1 : Below w.heap.size w ((w.alloc (.cells #[.slice A1 P.length c1, .slice A2 W.length c2, .slice A3 F.length c3] 28)).alloc (.cells #[.int .i64 0, .int .i64 0] 31)) := ((Below.refl _ _).alloc (Nat.le_refl _) _).alloc (by simp) _
    have bx := (Bx3.new w (.slice A1 P.length c1) (.slice A2 W.length c2) (.slice A3 F.length c3) 28).alloc (.cells #[.int .i64 0, .int .i64 0] 31)
    have br := Bx.new (w.alloc (.cells #[.slice A1 P.length c1, .slice A2 W.length c2, .slice A3 F.length c3] 28)) (.int .i64 0) (.int .i64 0) 31
    simp only [World.size_alloc] at br
    have hok := hk.arm
    have hn1 := hok.tree.n1
    have hn2 := hok.tree.n2
    have hn9 := hok.n9
    have hpar := hok.tree.par
    have HFL := Lib.hid hok.len
    have HWL := Lib.hid hok.tree.len
    have HBL := Lib.hid hbs
    have HN := Lib.hid hn
    have i0 : (0 : Int) ≤ (x : Int) := by omega
    have i1 : (x : Int) < (P.length : Int) := by omega
    have hkl9 : (kids P (x : Int)).length ≤ 9 := Nat.le_trans (kidTo_len P x P.length) hn9
    have hb0 := hk.b0
    have hb4 := hk.b4
    clear hn
    go_enter Try.func58, Try.ntmps58
    go_wp2_with fail
    generalize (w.alloc (.cells #[.slice A1 P.length c1, .slice A2 W.length c2, .slice A3 F.length c3] 28)).alloc (.cells #[.int .i64 0, .int .i64 0] 31) = w1 at *
    refine (l2WayN_c A1 P c1 A2 W.length c2 x _ (h.below HB1 (Nat.le_refl _)).r1 hpar hx hn2).mono ?_
    rintro e v ⟨Aw, cw, rfl, bw⟩
    have HBv := bUp HB1 bw HB1.size
    have bxv := bx.below bw
    have brv := br.below bw
    clear bx br bw HB1
    have hdN := dpN_le hok hx
    have HDI := Lib.hid (dpN_int P x)
    have bU := unitX_46 hok hb0 hb4 hx
    have bFU := FU_bd hk hx
    have bS := hok.sum180 x
    obtain ⟨p, hp⟩ : ∃ p, pw b (hgt P - (dpN P x : Int)).toNat = p := ⟨_, rfl⟩
    have HUX : Hid (nth (gath P W) x * p = unitX P W b x) := Lib.hid (by rw [← hp, dpN_int]; rfl)
    have HP := Lib.hid hp
    clear hp
    have hgd := hgt_dep hok hx
    have bE : 0 ≤ hgt P - (dpN P x : Int) ∧ hgt P - (dpN P x : Int) ≤ 4 := by rw [dpN_int]; exact hgd
    have e1 : IntKind.i64.wrap (hgt P - (dpN P x : Int)) = hgt P - (dpN P x : Int) := IntWalk.i64_in _ (by omega)
    have e2 : IntKind.i64.wrap (nth (gath P W) x * p) = nth (gath P W) x * p := by rw [HUX.out]; exact IntWalk.i64_in _ (by omega)
    have hd4 : dpN P x ≤ 4 := by omega
    clear hdN hgd
    go_upto_region 2 with fail
    obtain ⟨f0, f1, f2, fz⟩ := id bxv
    have h' := h.below (Below.drew HBv) (Nat.le_refl _)
    have hd1 : Below v.heap.size v v.drew := Below.drew (Below.refl _ _)
    have SK1 : Hid (∀ w', Below v.heap.size v w' → w'.cell? ⟨w.heap.size, 0, none⟩ = some (.slice A1 P.length c1) ∧ w'.cell? ⟨w.heap.size, 1, none⟩ = some (.slice A2 W.length c2) ∧ w'.cell? ⟨w.heap.size, 2, none⟩ = some (.slice A3 F.length c3)) := Lib.hid fun w' HV => ⟨(HV.cell (p := ⟨w.heap.size, 0, none⟩) fz).trans f0, (HV.cell (p := ⟨w.heap.size, 1, none⟩) fz).trans f1, (HV.cell (p := ⟨w.heap.size, 2, none⟩) fz).trans f2⟩
    clear f0 f1 f2
    have hS1_0 := SK1.out _ hd1
    refine tamed_region (S := fun w' => w'.cell? ⟨w.heap.size, 0, none⟩ = some (.slice A1 P.length c1) ∧ w'.cell? ⟨w.heap.size, 1, none⟩ = some (.slice A2 W.length c2) ∧ w'.cell? ⟨w.heap.size, 2, none⟩ = some (.slice A3 F.length c3)) (fun _ => false) (by kernel_rfl) ?_
    refine tame0 (k := 0) ?_ rfl (by kernel_rfl) (by kernel_rfl) (by kernel_rfl) (fun _ _ _ h => h) (by kernel_rfl) (fun v => ?_) ?_
    rotate_left
    · (go_simp; all_goals rfl)
    simp only [Act.put, List.setIfInBounds_toArray]
    refine tame (k := 1) ?_ rfl (by kernel_rfl) (by kernel_rfl) (by kernel_rfl) (by kernel_rfl) (fun _ _ _ h => h) (by kernel_rfl) hS1_0 (fun v hv => ?_) ?_
    rotate_left
    · (obtain ⟨k1, k2, k3⟩ := hv; go_simp; all_goals rfl)
    simp only [Act.put]
    refine tame0 (k := 3) ?_ rfl (by kernel_rfl) (by kernel_rfl) (by kernel_rfl) (fun _ _ _ h => h) (by kernel_rfl) (fun v => ?_) ?_
    rotate_left
    · (go_simp; all_goals rfl)
    simp only [Act.put]
    refine tame0 (k := 6) ?_ rfl (by kernel_rfl) (by kernel_rfl) (by kernel_rfl) (fun _ _ _ h => h) (by kernel_rfl) (fun v => ?_) ?_
    rotate_left
    · (go_simp; all_goals rfl)
    simp only [Act.put]
    refine tame0 (k := 7) ?_ rfl (by kernel_rfl) (by kernel_rfl) (by kernel_rfl) (fun _ _ _ h => h) (by kernel_rfl) (fun v => ?_) ?_
    rotate_left
    · (go_simp; all_goals rfl)
    simp only [Act.put]
    refine tame (k := 8) ?_ rfl (by kernel_rfl) (by kernel_rfl) (by kernel_rfl) (by kernel_rfl) (fun _ _ _ h => h) (by kernel_rfl) hS1_0 (fun v hv => ?_) ?_
    rotate_left
    · (obtain ⟨k1, k2, k3⟩ := hv; go_simp; all_goals rfl)
    simp only [Act.put]
    refine tame0 (k := 10) ?_ rfl (by kernel_rfl) (by kernel_rfl) (by kernel_rfl) (fun _ _ _ h => h) (by kernel_rfl) (fun v => ?_) ?_
    rotate_left
    · (go_simp; all_goals rfl)
    simp only [Act.put]
    refine tame_one (k := 2) (by kernel_rfl) rfl (by kernel_rfl) ?_
    go_simp
    refine (l2SumsN_c A1 P c1 A2 W c2 _ h'.r1 h'.r2 hok.tree hn1 hn2).mono ?_
    rintro e w5 ⟨As, cs, rfl, os, b5⟩
    have hd1_1 := bUp hd1 b5 (Nat.le_refl _)
    have hS1_1 := Lib.hid (SK1.out _ hd1_1)
    refine ⟨by first | exact hS1_1 | exact Hid.out hS1_1, ?_⟩
    have HSL := Lib.hid (show (gath P W).length = P.length by rw [gath_length, hok.tree.len])
    obtain ⟨gs, rfl, hgs, hgs2⟩ := os.form (by rw [HSL.out]; omega)
    have qs := os.cellN (k := x) (by rw [HSL.out]; exact hx)
    have h5 := h'.below b5 (Nat.le_refl _)
    have SK1m : Hid (∀ w', Below w5.heap.size w5 w' → (w'.cell? ⟨w.heap.size, 0, none⟩ = some (.slice A1 P.length c1) ∧ w'.cell? ⟨w.heap.size, 1, none⟩ = some (.slice A2 W.length c2) ∧ w'.cell? ⟨w.heap.size, 2, none⟩ = some (.slice A3 F.length c3)) ∧ w'.cell? ⟨gs, x, none⟩ = some (.int .i64 (nth (gath P W) x))) := Lib.hid fun w' HV => ⟨SK1.out _ (bUp hd1_1 HV hd1_1.size), (HV.cell (p := ⟨gs, x, none⟩) hgs2).trans qs⟩
    clear qs
    have hm1_1 : Below w5.heap.size w5 w5 := Below.refl _ _
    have hS1_1m := SK1m.out _ hm1_1
    refine Tamed.more (S2 := fun w' => (w'.cell? ⟨w.heap.size, 0, none⟩ = some (.slice A1 P.length c1) ∧ w'.cell? ⟨w.heap.size, 1, none⟩ = some (.slice A2 W.length c2) ∧ w'.cell? ⟨w.heap.size, 2, none⟩ = some (.slice A3 F.length c3)) ∧ w'.cell? ⟨gs, x, none⟩ = some (.int .i64 (nth (gath P W) x))) (fun _ => rfl) (fun _ h => h.1) _ _ _ _ hS1_1m ?_
    refine tame0 (k := 4) ?_ rfl (by kernel_rfl) (by kernel_rfl) (by kernel_rfl) (fun _ _ _ h => h) (by kernel_rfl) (fun v => ?_) ?_
    rotate_left
    · (go_simp; all_goals rfl)
    simp only [Act.put]
    refine tame (k := 5) ?_ rfl (by kernel_rfl) (by kernel_rfl) (by kernel_rfl) (by kernel_rfl) (fun _ _ _ h => h) (by kernel_rfl) hS1_1m (fun v hv => ?_) ?_
    rotate_left
    · (obtain ⟨⟨k1, k2, k3⟩, k4⟩ := hv; go_simp; all_goals rfl)
    simp only [Act.put]
    refine tame_one (k := 9) (by kernel_rfl) rfl (by kernel_rfl) ?_
    go_simp
    refine (l8Deepest_c A1 P c1 A2 W.length c2 _ h5.r1 hpar hn1 hn2).mono ?_
    rintro e w6 ⟨rfl, b6⟩
    have hd1_2 := bUp hm1_1 b6 (Nat.le_refl _)
    have hS1_2 := Lib.hid (SK1m.out _ hd1_2)
    refine ⟨by first | exact hS1_2 | exact Hid.out hS1_2, ?_⟩
    refine tame_one (k := 11) (by kernel_rfl) rfl (by kernel_rfl) ?_
    go_simp
    refine ⟨by first | exact hS1_2 | exact Hid.out hS1_2, ?_⟩
    refine tame_one (k := 12) (by kernel_rfl) rfl (by kernel_rfl) ?_
    go_simp
    refine (l6Power_s b (hgt P - (dpN P x : Int)) p hb0 hb4 bE.1 bE.2 HP.out _).mono ?_
    rintro e w7 ⟨rfl, rfl⟩
    refine ⟨by first | exact hS1_2 | exact Hid.out hS1_2, ?_⟩
    refine tame_one (k := 13) (by kernel_rfl) rfl (by kernel_rfl) ?_
    go_simp
    refine ⟨by first | exact hS1_2 | exact Hid.out hS1_2, ?_⟩
    rw [HUX.out]
    refine tame_one (k := 14) (by kernel_rfl) rfl (by kernel_rfl) ?_
    go_simp
    refine ⟨by first | exact hS1_2 | exact Hid.out hS1_2, ?_⟩
    refine tame_end (by kernel_rfl) ?_
    have HV6 := (Below.drew (Below.refl v.heap.size v)).trans (b5.trans (b6.mono b5.size))
    have HB6 := HBv.trans (HV6.mono HBv.size)
    have bx6 := bxv.below HV6
    have br6 := brv.below HV6
    clear os b5 b6 h5 h' bxv brv HBv HV6 e1 e2 bE bS SK1 SK1m hd1 hd1_1 hm1_1 hS1_0 hS1_1 hS1_1m hd1_2 hS1_2
    generalize hU : unitX P W b x = U at *
    have HU := Lib.hid hU
    clear hU
    obtain ⟨f0, f1, f2, fz⟩ := id bx6
    obtain ⟨a3, rfl, q3⟩ := (h.below HB6 (Nat.le_refl _)).r3.intN (k := x) (by rw [HFL.out]; exact hx)
    have i2 : (x : Int) < (F.length : Int) := by rw [HFL.out]; omega
    have e1 : IntKind.i64.wrap (nth F x * U) = nth F x * U := IntWalk.i64_in _ (by omega)
    go_upto_region 3 with fail
    go_cut [13, 14] (fun s13 s14 wx => ∃ (g : Nat) (Ak : Option Addr) (ck : Nat), s13 = .pointer (some ⟨g, 0, none⟩) ∧ s14 = .slice Ak (kids P (x : Int)).length ck ∧ w6.heap.size ≤ g ∧ Bx wx g (.int .i64 (nth F x * U)) (.int .i64 U) ∧ Own wx w6.heap.size Ak ck (kids P (x : Int)) ∧ blk Ak ≠ some g ∧ Below w6.heap.size w6 wx)
    case first =>
      have h' := h.below (Below.drew HB6) (Nat.le_refl _)
      have hd2 : Below w6.heap.size w6 w6.drew := Below.drew (Below.refl _ _)
      have SK2 : Hid (∀ w', Below w6.heap.size w6 w' → w'.cell? ⟨w.heap.size, 0, none⟩ = some (.slice A1 P.length c1) ∧ w'.cell? ⟨w.heap.size, 1, none⟩ = some (.slice A2 W.length c2) ∧ w'.cell? ⟨w.heap.size, 2, none⟩ = some (.slice (some a3) F.length c3) ∧ w'.cell? (a3.add x) = some (.int .i64 (nth F x))) := Lib.hid fun w' HV => ⟨(HV.cell (p := ⟨w.heap.size, 0, none⟩) fz).trans f0, (HV.cell (p := ⟨w.heap.size, 1, none⟩) fz).trans f1, (HV.cell (p := ⟨w.heap.size, 2, none⟩) fz).trans f2, (HV.cell (cell_lt q3)).trans q3⟩
      clear f0 f1 f2 q3
      have hS2_0 := SK2.out _ hd2
      refine tamed_region (S := fun w' => w'.cell? ⟨w.heap.size, 0, none⟩ = some (.slice A1 P.length c1) ∧ w'.cell? ⟨w.heap.size, 1, none⟩ = some (.slice A2 W.length c2) ∧ w'.cell? ⟨w.heap.size, 2, none⟩ = some (.slice (some a3) F.length c3) ∧ w'.cell? (a3.add x) = some (.int .i64 (nth F x))) (fun _ => false) (by kernel_rfl) ?_
      refine tame0 (k := 0) ?_ rfl (by kernel_rfl) (by kernel_rfl) (by kernel_rfl) (fun _ _ _ h => h) (by kernel_rfl) (fun v => ?_) ?_
      rotate_left
      · (go_simp; all_goals rfl)
      simp only [Act.put, List.setIfInBounds_toArray]
      refine tame (k := 1) ?_ rfl (by kernel_rfl) (by kernel_rfl) (by kernel_rfl) (by kernel_rfl) (fun _ _ _ h => h) (by kernel_rfl) hS2_0 (fun v hv => ?_) ?_
      rotate_left
      · (obtain ⟨k1, k2, k3, k4⟩ := hv; go_simp; all_goals rfl)
      simp only [Act.put]
      refine tame0 (k := 2) ?_ rfl (by kernel_rfl) (by kernel_rfl) (by kernel_rfl) (fun _ _ _ h => h) (by kernel_rfl) (fun v => ?_) ?_
      rotate_left
      · (go_simp; all_goals rfl)
      simp only [Act.put]
      refine tame0 (k := 3) ?_ rfl (by kernel_rfl) (by kernel_rfl) (by kernel_rfl) (fun _ _ _ h => h) (by kernel_rfl) (fun v => ?_) ?_
      rotate_left
      · (go_simp; all_goals rfl)
      simp only [Act.put]
      refine tame (k := 4) ?_ rfl (by kernel_rfl) (by kernel_rfl) (by kernel_rfl) (by kernel_rfl) (fun _ _ _ h => h) (by kernel_rfl) hS2_0 (fun v hv => ?_) ?_
      rotate_left
      · (obtain ⟨k1, k2, k3, k4⟩ := hv; go_simp; all_goals rfl)
      simp only [Act.put]
      refine tame0 (k := 5) ?_ rfl (by kernel_rfl) (by kernel_rfl) (by kernel_rfl) (fun _ _ _ h => h) (by kernel_rfl) (fun v => ?_) ?_
      rotate_left
      · (go_simp; all_goals rfl)
      simp only [Act.put]
      refine tame0 (k := 6) ?_ rfl (by kernel_rfl) (by kernel_rfl) (by kernel_rfl) (fun _ _ _ h => h) (by kernel_rfl) (fun v => ?_) ?_
      rotate_left
      · (go_simp; all_goals rfl)
      simp only [Act.put]
      refine tame0 (k := 7) ?_ rfl (by kernel_rfl) (by kernel_rfl) (by kernel_rfl) (fun _ _ _ h => h) (by kernel_rfl) (fun v => ?_) ?_
      rotate_left
      · (go_simp; all_goals rfl)
      simp only [Act.put]
      refine tame0 (k := 8) ?_ rfl (by kernel_rfl) (by kernel_rfl) (by kernel_rfl) (fun _ _ _ h => h) (by kernel_rfl) (fun v => ?_) ?_
      rotate_left
      · (go_simp; all_goals rfl)
      simp only [Act.put]
      refine tame0 (k := 9) ?_ rfl (by kernel_rfl) (by kernel_rfl) (by kernel_rfl) (fun _ _ _ h => h) (by kernel_rfl) (fun v => ?_) ?_
      rotate_left
      · (go_simp; all_goals rfl)
      simp only [Act.put]
      refine tame (k := 10) ?_ rfl (by kernel_rfl) (by kernel_rfl) (by kernel_rfl) (by kernel_rfl) (fun _ _ _ h => h) (by kernel_rfl) hS2_0 (fun v hv => ?_) ?_
      rotate_left
      · (obtain ⟨k1, k2, k3, k4⟩ := hv; go_simp; all_goals rfl)
      simp only [Act.put]
      refine tame0 (k := 11) ?_ rfl (by kernel_rfl) (by kernel_rfl) (by kernel_rfl) (fun _ _ _ h => h) (by kernel_rfl) (fun v => ?_) ?_
      rotate_left
      · (go_simp; all_goals rfl)
      simp only [Act.put]
      refine tame_two (i := 12) (j := 13) (by kernel_rfl) rfl rfl (by kernel_rfl) (by kernel_rfl) ?_ ?_
      · go_simp
        refine (l2Kids_c A1 P c1 A2 W.length c2 x _ (h'.below (w' := w6.drew) (Below.refl _ _) (Nat.le_refl _)).r1 hpar hx hn2).mono ?_
        rintro e w8 ⟨Ak, ck, rfl, ok, b8⟩
        have hI := bUp hd2 b8 (Nat.le_refl _)
        refine ⟨by first | exact SK2.out _ hI | exact ⟨(by first | exact (SK2.out _ hI).1), (by first | exact (SK2.out _ hI).2.1), (by first | exact (SK2.out _ hI).2.2.1), (by first | exact (SK2.out _ hI).2.2.2)⟩, ?_⟩
        refine tame_one (k := 13) (by kernel_rfl) rfl (by kernel_rfl) ?_
        go_simp
        have hJ := hI.alloc hI.size (.cells #[.int .i64 0, .int .i64 0] 31)
        refine ⟨by first | exact SK2.out _ hJ | exact SK2.out _ hI | exact ⟨(by first | exact (SK2.out _ hJ).1 | exact (SK2.out _ hI).1), (by first | exact (SK2.out _ hJ).2.1 | exact (SK2.out _ hI).2.1), (by first | exact (SK2.out _ hJ).2.2.1 | exact (SK2.out _ hI).2.2.1), (by first | exact (SK2.out _ hJ).2.2.2 | exact (SK2.out _ hI).2.2.2)⟩, ?_⟩
        have bgI := Bx.new w8 (.int .i64 0) (.int .i64 0) 31
        have bgX := Bx.new w8 (.int .i64 (nth F x * U)) (.int .i64 U) 31
        have hK := hI.alloc hI.size (.cells #[.int .i64 (nth F x * U), .int .i64 U] 31)
        obtain ⟨y0, y1, y2, y3, y4⟩ := id bgI
        refine tame_one (k := 14) (by kernel_rfl) rfl (by kernel_rfl) ?_
        go_simp
        refine ⟨by first | exact SK2.out _ hK | exact SK2.out _ hI | exact ⟨(by first | exact (SK2.out _ hK).1 | exact (SK2.out _ hI).1), (by first | exact (SK2.out _ hK).2.1 | exact (SK2.out _ hI).2.1), (by first | exact (SK2.out _ hK).2.2.1 | exact (SK2.out _ hI).2.2.1), (by first | exact (SK2.out _ hK).2.2.2 | exact (SK2.out _ hI).2.2.2)⟩, ?_⟩
        refine tame_one (k := 15) (by kernel_rfl) rfl (by kernel_rfl) ?_
        go_simp
        refine ⟨by first | exact SK2.out _ hK | exact SK2.out _ hI | exact ⟨(by first | exact (SK2.out _ hK).1 | exact (SK2.out _ hI).1), (by first | exact (SK2.out _ hK).2.1 | exact (SK2.out _ hI).2.1), (by first | exact (SK2.out _ hK).2.2.1 | exact (SK2.out _ hI).2.2.1), (by first | exact (SK2.out _ hK).2.2.2 | exact (SK2.out _ hI).2.2.2)⟩, ?_⟩
        refine tame_end (by kernel_rfl) ?_
        go_wp2_with fail
        go_meet
        exact ⟨_, Ak, ck, rfl, rfl, hI.size, bgX, (ok.mono (Nat.le_refl _)).alloc _, (fun e => by have := ok.ltk _ e; omega), hK⟩
      · go_simp
        have hJ := hd2.alloc (Nat.le_refl _) (.cells #[.int .i64 0, .int .i64 0] 31)
        refine ⟨by first | exact SK2.out _ hJ | exact SK2.out _ hd2 | exact ⟨(by first | exact (SK2.out _ hJ).1 | exact (SK2.out _ hd2).1), (by first | exact (SK2.out _ hJ).2.1 | exact (SK2.out _ hd2).2.1), (by first | exact (SK2.out _ hJ).2.2.1 | exact (SK2.out _ hd2).2.2.1), (by first | exact (SK2.out _ hJ).2.2.2 | exact (SK2.out _ hd2).2.2.2)⟩, ?_⟩
        have bgI : Bx (w6.drew.alloc (.cells #[.int .i64 0, .int .i64 0] 31)) w6.heap.size (.int .i64 0) (.int .i64 0) := Bx.new w6.drew _ _ _
        refine tame_one (k := 12) (by kernel_rfl) rfl (by kernel_rfl) ?_
        go_simp
        refine (l2Kids_c A1 P c1 A2 W.length c2 x _ (h'.below (w' := (w6.drew.alloc (.cells #[.int .i64 0, .int .i64 0] 31))) ((Below.refl _ _).alloc (Nat.le_refl _) _) (Nat.le_refl _)).r1 hpar hx hn2).mono ?_
        rintro e w8 ⟨Ak, ck, rfl, ok, b8⟩
        have hI := bUp hJ b8 hJ.size
        refine ⟨by first | exact SK2.out _ hI | exact ⟨(by first | exact (SK2.out _ hI).1), (by first | exact (SK2.out _ hI).2.1), (by first | exact (SK2.out _ hI).2.2.1), (by first | exact (SK2.out _ hI).2.2.2)⟩, ?_⟩
        have bg6 := bgI.below b8
        have bgX := bx_put bg6 (.int .i64 (nth F x * U)) (.int .i64 U)
        obtain ⟨y0, y1, y2, y3, y4⟩ := id bg6
        have hgg : w6.heap.size ≤ w6.heap.size := Nat.le_refl _
        have hK := (hI.setCell (p := ⟨w6.heap.size, 0, none⟩) hgg (.int .i64 (nth F x * U))).setCell (p := ⟨w6.heap.size, 1, none⟩) hgg (.int .i64 U)
        refine tame_one (k := 14) (by kernel_rfl) rfl (by kernel_rfl) ?_
        go_simp
        refine ⟨by first | exact SK2.out _ hK | exact SK2.out _ hI | exact ⟨(by first | exact (SK2.out _ hK).1 | exact (SK2.out _ hI).1), (by first | exact (SK2.out _ hK).2.1 | exact (SK2.out _ hI).2.1), (by first | exact (SK2.out _ hK).2.2.1 | exact (SK2.out _ hI).2.2.1), (by first | exact (SK2.out _ hK).2.2.2 | exact (SK2.out _ hI).2.2.2)⟩, ?_⟩
        refine tame_one (k := 15) (by kernel_rfl) rfl (by kernel_rfl) ?_
        go_simp
        refine ⟨by first | exact SK2.out _ hK | exact SK2.out _ hI | exact ⟨(by first | exact (SK2.out _ hK).1 | exact (SK2.out _ hI).1), (by first | exact (SK2.out _ hK).2.1 | exact (SK2.out _ hI).2.1), (by first | exact (SK2.out _ hK).2.2.1 | exact (SK2.out _ hI).2.2.1), (by first | exact (SK2.out _ hK).2.2.2 | exact (SK2.out _ hI).2.2.2)⟩, ?_⟩
        refine tame_end (by kernel_rfl) ?_
        go_wp2_with fail
        go_meet
        have nk : blk Ak ≠ some w6.heap.size := fun e => by have := ok.ge _ e; simp at this; omega
        exact ⟨_, Ak, ck, rfl, rfl, hgg, bgX, ((ok.setOther _ _ (.inr nk)).setOther _ _ (.inr nk)).mono (by simp), nk, hK⟩
    case rest =>
      obtain ⟨g, Ak, ck, rfl, rfl, hg, bg, ok, hnk, HX⟩ := hcut
      have sz6 : w.heap.size + 1 < w6.heap.size := br6.2.2.2.2
      have R0 := PaR.mk (w := w) (f := (nth F x * U, U)) (bx6.below HX) (br6.below HX) bg (ok.mono (by omega)) hnk (by omega) (HB6.trans (HX.mono HB6.size))
      have hG0 := Lib.hid (gnK_zero (P := P) (W := W) (F := F) (a := a) (b := b) (nthB bs) x)
      have hT0 := Lib.hid (tmK_zero (P := P) (W := W) (a := a) (b := b) (nthB bs) x)
      clear f0 f1 f2 fz q3 e1 bx6 br6 HB6 bg ok hnk HX hg
      go_wp2_with fail
      go_loopw [15] (fun i wr => ∃ k : Nat, k ≤ (kids P (x : Int)).length ∧ i = .int .i64 (k : Int) ∧ PaR w wr g (gnK P W F a b (nthB bs) x k, tmK P W a b (nthB bs) x k) (.slice A1 P.length c1) (.slice A2 W.length c2) (.slice (some a3) F.length c3) Ak ck (kids P (x : Int))) (fun i _ => (kids P (x : Int)).length - (intOf i).toNat)
      case atStart => exact ⟨0, Nat.zero_le _, rfl, by rw [hG0.out, hT0.out, HU.out]; exact R0⟩
      case round =>
        clear R0 hG0 hT0
        obtain ⟨k, hkl, rfl, R⟩ := hrel
        obtain ⟨v, rfl⟩ : ∃ v : World, v = wr := ⟨_, rfl⟩
        obtain ⟨f0, f1, f2, fz⟩ := id R.bx
        by_cases hlt : k < (kids P (x : Int)).length
        · have j1 : (k : Int) < ((kids P (x : Int)).length : Int) := by omega
          have j0 : (0 : Int) ≤ (k : Int) := by omega
          obtain ⟨gk, rfl, hgk, hgk2⟩ := R.ok.form (by omega)
          have qk := R.ok.cellN hlt
          obtain ⟨y, hy, hxy, hyl, hpy⟩ := kid_at hpar hlt
          rw [hy] at qk
          have HY := Lib.hid hy
          have y0 : (0 : Int) ≤ (y : Int) := by omega
          have y1 : (y : Int) < (P.length : Int) := by omega
          have obv := hob.below R.hb
          have qi := obv.cell (k := y) (by rw [HBL.out]; exact hyl)
          clear hy hpy
          cases hi : nthB bs y
          · rw [hi] at qi
            have HG := Lib.hid (gnK_out (W := W) (F := F) (a := a) (b := b) HY.out hi)
            have HT := Lib.hid (tmK_out (W := W) (a := a) (b := b) HY.out hi)
            clear hi
            go_wp2
            go_roundw
            case rel => exact ⟨k + 1, hlt, by go_num, by rw [HG.out, HT.out]; exact R⟩
            case measure => simp [intOf] <;> omega
          · rw [hi] at qi
            have HG := Lib.hid (gnK_in (W := W) (F := F) (a := a) (b := b) HY.out hi)
            have HT := Lib.hid (tmK_in (W := W) (a := a) (b := b) HY.out hi)
            have B1 := gnK_bd hk (nthB bs) hx k hkl
            have B2 := tmK_bd hk (nthB bs) hx k hkl
            have B3 := aGn_bd hk (nthB bs) y
            have B4 := aTm_bd hk (nthB bs) y
            clear hi
            go_upto_region 8 with fail
            go_cut [16] from 50 to 86 (fun s16 wx => ∃ g2 : Nat, s16 = .pointer (some ⟨g2, 0, none⟩) ∧ v.heap.size ≤ g2 ∧ Bx wx g2 (.int .i64 (gnR P W F a b (nthB bs) y)) (.int .i64 (tmR P W a b (nthB bs) y)) ∧ Below v.heap.size v wx)
            case first =>
              have h' := h.below (Below.drew R.hb) (Nat.le_refl _)
              have ob' := obv.below (Below.drew (Below.refl v.heap.size v))
              have hd3 : Below v.heap.size v v.drew := Below.drew (Below.refl _ _)
              have SK3 : Hid (∀ w', Below v.heap.size v w' → w'.cell? ⟨w.heap.size, 0, none⟩ = some (.slice A1 P.length c1) ∧ w'.cell? ⟨w.heap.size, 1, none⟩ = some (.slice A2 W.length c2) ∧ w'.cell? ⟨w.heap.size, 2, none⟩ = some (.slice (some a3) F.length c3) ∧ w'.cell? ⟨gk, k, none⟩ = some (.int .i64 (y : Int))) := Lib.hid fun w' HV => ⟨(HV.cell (p := ⟨w.heap.size, 0, none⟩) fz).trans f0, (HV.cell (p := ⟨w.heap.size, 1, none⟩) fz).trans f1, (HV.cell (p := ⟨w.heap.size, 2, none⟩) fz).trans f2, (HV.cell (p := ⟨gk, k, none⟩) hgk2).trans qk⟩
              clear f0 f1 f2 qk
              have hS3_0 := SK3.out _ hd3
              refine tamed_region (S := fun w' => w'.cell? ⟨w.heap.size, 0, none⟩ = some (.slice A1 P.length c1) ∧ w'.cell? ⟨w.heap.size, 1, none⟩ = some (.slice A2 W.length c2) ∧ w'.cell? ⟨w.heap.size, 2, none⟩ = some (.slice (some a3) F.length c3) ∧ w'.cell? ⟨gk, k, none⟩ = some (.int .i64 (y : Int))) (fun _ => false) (by kernel_rfl) ?_
              refine tame (k := 0) ?_ rfl (by kernel_rfl) (by kernel_rfl) (by kernel_rfl) (by kernel_rfl) (fun _ _ _ h => h) (by kernel_rfl) hS3_0 (fun v hv => ?_) ?_
              rotate_left
              · (obtain ⟨k1, k2, k3, k4⟩ := hv; go_simp; all_goals rfl)
              simp only [Act.put, List.setIfInBounds_toArray]
              refine tame0 (k := 1) ?_ rfl (by kernel_rfl) (by kernel_rfl) (by kernel_rfl) (fun _ _ _ h => h) (by kernel_rfl) (fun v => ?_) ?_
              rotate_left
              · (go_simp; all_goals rfl)
              simp only [Act.put]
              refine tame0 (k := 2) ?_ rfl (by kernel_rfl) (by kernel_rfl) (by kernel_rfl) (fun _ _ _ h => h) (by kernel_rfl) (fun v => ?_) ?_
              rotate_left
              · (go_simp; all_goals rfl)
              simp only [Act.put]
              refine tame0 (k := 3) ?_ rfl (by kernel_rfl) (by kernel_rfl) (by kernel_rfl) (fun _ _ _ h => h) (by kernel_rfl) (fun v => ?_) ?_
              rotate_left
              · (go_simp; all_goals rfl)
              simp only [Act.put]
              refine tame0 (k := 4) ?_ rfl (by kernel_rfl) (by kernel_rfl) (by kernel_rfl) (fun _ _ _ h => h) (by kernel_rfl) (fun v => ?_) ?_
              rotate_left
              · (go_simp; all_goals rfl)
              simp only [Act.put]
              refine tame0 (k := 5) ?_ rfl (by kernel_rfl) (by kernel_rfl) (by kernel_rfl) (fun _ _ _ h => h) (by kernel_rfl) (fun v => ?_) ?_
              rotate_left
              · (go_simp; all_goals rfl)
              simp only [Act.put]
              refine tame0 (k := 6) ?_ rfl (by kernel_rfl) (by kernel_rfl) (by kernel_rfl) (fun _ _ _ h => h) (by kernel_rfl) (fun v => ?_) ?_
              rotate_left
              · (go_simp; all_goals rfl)
              simp only [Act.put]
              refine tame (k := 7) ?_ rfl (by kernel_rfl) (by kernel_rfl) (by kernel_rfl) (by kernel_rfl) (fun _ _ _ h => h) (by kernel_rfl) hS3_0 (fun v hv => ?_) ?_
              rotate_left
              · (obtain ⟨k1, k2, k3, k4⟩ := hv; go_simp; all_goals rfl)
              simp only [Act.put]
              refine tame_two (i := 8) (j := 9) (by kernel_rfl) rfl rfl (by kernel_rfl) (by kernel_rfl) ?_ ?_
              · go_simp
                refine (ih y _ (by have := HN.out; omega) hyl (h'.below (w' := v.drew) (Below.refl _ _) (Nat.le_refl _)) (ob'.below (w' := v.drew) (Below.refl _ _))).mono ?_
                rintro e w8 ⟨rfl, b8⟩
                have hI := bUp hd3 b8 (Nat.le_refl _)
                refine ⟨by first | exact SK3.out _ hI | exact ⟨(by first | exact (SK3.out _ hI).1), (by first | exact (SK3.out _ hI).2.1), (by first | exact (SK3.out _ hI).2.2.1), (by first | exact (SK3.out _ hI).2.2.2)⟩, ?_⟩
                refine tame_one (k := 9) (by kernel_rfl) rfl (by kernel_rfl) ?_
                go_simp
                have hJ := hI.alloc hI.size (.cells #[.int .i64 0, .int .i64 0] 31)
                refine ⟨by first | exact SK3.out _ hJ | exact SK3.out _ hI | exact ⟨(by first | exact (SK3.out _ hJ).1 | exact (SK3.out _ hI).1), (by first | exact (SK3.out _ hJ).2.1 | exact (SK3.out _ hI).2.1), (by first | exact (SK3.out _ hJ).2.2.1 | exact (SK3.out _ hI).2.2.1), (by first | exact (SK3.out _ hJ).2.2.2 | exact (SK3.out _ hI).2.2.2)⟩, ?_⟩
                have bgI := Bx.new w8 (.int .i64 0) (.int .i64 0) 31
                have bgX := Bx.new w8 (.int .i64 (gnR P W F a b (nthB bs) y)) (.int .i64 (tmR P W a b (nthB bs) y)) 31
                have hK := hI.alloc hI.size (.cells #[.int .i64 (gnR P W F a b (nthB bs) y), .int .i64 (tmR P W a b (nthB bs) y)] 31)
                obtain ⟨y0, y1, y2, y3, y4⟩ := id bgI
                refine tame_one (k := 10) (by kernel_rfl) rfl (by kernel_rfl) ?_
                go_simp
                refine ⟨by first | exact SK3.out _ hK | exact SK3.out _ hI | exact ⟨(by first | exact (SK3.out _ hK).1 | exact (SK3.out _ hI).1), (by first | exact (SK3.out _ hK).2.1 | exact (SK3.out _ hI).2.1), (by first | exact (SK3.out _ hK).2.2.1 | exact (SK3.out _ hI).2.2.1), (by first | exact (SK3.out _ hK).2.2.2 | exact (SK3.out _ hI).2.2.2)⟩, ?_⟩
                refine tame_end (by kernel_rfl) ?_
                go_wp2_with fail
                go_meet
                exact ⟨_, rfl, hI.size, bgX, hK⟩
              · go_simp
                have hJ := hd3.alloc (Nat.le_refl _) (.cells #[.int .i64 0, .int .i64 0] 31)
                refine ⟨by first | exact SK3.out _ hJ | exact SK3.out _ hd3 | exact ⟨(by first | exact (SK3.out _ hJ).1 | exact (SK3.out _ hd3).1), (by first | exact (SK3.out _ hJ).2.1 | exact (SK3.out _ hd3).2.1), (by first | exact (SK3.out _ hJ).2.2.1 | exact (SK3.out _ hd3).2.2.1), (by first | exact (SK3.out _ hJ).2.2.2 | exact (SK3.out _ hd3).2.2.2)⟩, ?_⟩
                have bgI : Bx (v.drew.alloc (.cells #[.int .i64 0, .int .i64 0] 31)) v.heap.size (.int .i64 0) (.int .i64 0) := Bx.new v.drew _ _ _
                refine tame_one (k := 8) (by kernel_rfl) rfl (by kernel_rfl) ?_
                go_simp
                refine (ih y _ (by have := HN.out; omega) hyl (h'.below (w' := (v.drew.alloc (.cells #[.int .i64 0, .int .i64 0] 31))) ((Below.refl _ _).alloc (Nat.le_refl _) _) (Nat.le_refl _)) (ob'.below (w' := (v.drew.alloc (.cells #[.int .i64 0, .int .i64 0] 31))) ((Below.refl _ _).alloc (Nat.le_refl _) _))).mono ?_
                rintro e w8 ⟨rfl, b8⟩
                have hI := bUp hJ b8 hJ.size
                refine ⟨by first | exact SK3.out _ hI | exact ⟨(by first | exact (SK3.out _ hI).1), (by first | exact (SK3.out _ hI).2.1), (by first | exact (SK3.out _ hI).2.2.1), (by first | exact (SK3.out _ hI).2.2.2)⟩, ?_⟩
                have bg6 := bgI.below b8
                have bgX := bx_put bg6 (.int .i64 (gnR P W F a b (nthB bs) y)) (.int .i64 (tmR P W a b (nthB bs) y))
                obtain ⟨y0, y1, y2, y3, y4⟩ := id bg6
                have hgg : v.heap.size ≤ v.heap.size := Nat.le_refl _
                have hK := (hI.setCell (p := ⟨v.heap.size, 0, none⟩) hgg (.int .i64 (gnR P W F a b (nthB bs) y))).setCell (p := ⟨v.heap.size, 1, none⟩) hgg (.int .i64 (tmR P W a b (nthB bs) y))
                refine tame_one (k := 10) (by kernel_rfl) rfl (by kernel_rfl) ?_
                go_simp
                refine ⟨by first | exact SK3.out _ hK | exact SK3.out _ hI | exact ⟨(by first | exact (SK3.out _ hK).1 | exact (SK3.out _ hI).1), (by first | exact (SK3.out _ hK).2.1 | exact (SK3.out _ hI).2.1), (by first | exact (SK3.out _ hK).2.2.1 | exact (SK3.out _ hI).2.2.1), (by first | exact (SK3.out _ hK).2.2.2 | exact (SK3.out _ hI).2.2.2)⟩, ?_⟩
                refine tame_end (by kernel_rfl) ?_
                go_wp2_with fail
                go_meet
                exact ⟨_, rfl, hgg, bgX, hK⟩
            case rest =>
              obtain ⟨g2, rfl, hg2, bg2, HX⟩ := hcut
              have R2 := R.below HX
              clear R f0 f1 f2 fz qk qi obv HX
              obtain ⟨p0, p1, p2, p3, p4⟩ := id R2.bg
              obtain ⟨u0, u1, u2, u3, u4⟩ := id bg2
              have RS := R2.set (gnK P W F a b (nthB bs) x k + a * gnR P W F a b (nthB bs) y) (tmK P W a b (nthB bs) x k + a * tmR P W a b (nthB bs) y)
              clear R2
              go_wp2
              go_roundw
              case rel => exact ⟨k + 1, hlt, by go_num, by rw [HG.out, HT.out]; exact RS⟩
              case measure => simp [intOf] <;> omega
        · obtain rfl : k = (kids P (x : Int)).length := by omega
          have HG := Lib.hid (gnK_all (W := W) (F := F) (a := a) (b := b) hpar (i := nthB bs) hx)
          have HT := Lib.hid (tmK_all (W := W) (a := a) (b := b) hpar (i := nthB bs) hx)
          obtain ⟨p0, p1, p2, p3, p4⟩ := id R.bg
          rw [HG.out] at p0
          rw [HT.out] at p1
          obtain ⟨r0, r1, r2, r3, r4⟩ := id R.br
          go_wp2
          exact bodyPost_ret (v := .agg #[.int .i64 (gnR P W F a b (nthB bs) x), .int .i64 (tmR P W a b (nthB bs) x)]) (by simp [results, Try.results58, go_sem, r0, r1]) rfl ⟨rfl, by with_reducible repeat (first | exact R.hb | refine Below.setCell ?_ (by simp <;> omega) _)⟩

set_option maxRecDepth 20000 in
set_option maxHeartbeats 1000000 in
theorem l2Under_c (A1 : Option Addr) (P : List Int) (c1 : Nat) (A2 : Option Addr) (n2 c2 : Nat) (x y : Nat) (w : World) (h1 : Rd w A1 (ints P)) (hp : ParOk P) (hy : y < P.length) (hx : x < P.length) :
    Calls Try.prog 128 #[trV A1 P.length c1 A2 n2 c2, .int .i64 (x : Int), .int .i64 (y : Int)] w (Quietly w (.bool (undB P x y))) := by
  have HB1 : Below w.heap.size w (w.alloc (.cells #[.slice A1 P.length c1, .slice A2 n2 c2] 26)) := (Below.refl _ _).alloc (Nat.le_refl _) _
  obtain ⟨f0, f1, f2, f3, f4⟩ := Bx.new w (.slice A1 P.length c1) (.slice A2 n2 c2) 26
  have h1' := h1.below HB1 (Nat.le_refl _)
  go_enter Try.func128, Try.ntmps128
  go_wp2
  generalize w.alloc (.cells #[.slice A1 P.length c1, .slice A2 n2 c2] 26) = v at *
  go_loop [2] (fun t => ∃ u : Nat, u < P.length ∧ t = .int .i64 (u : Int) ∧ undB P x u = undB P x y) (fun t => (intOf t).toNat)
  case atStart => exact ⟨y, hy, rfl, rfl⟩
  case round =>
    obtain ⟨u, hu, rfl, he⟩ := hrel
    by_cases hxu : x < u
    · obtain ⟨p, hpu, hlt⟩ := par_of hp hxu hu
      obtain ⟨a1, rfl, q1⟩ := h1'.intN (k := u) hu
      rw [hpu] at q1
      have HE : Hid (undB P x p = undB P x y) := Lib.hid (by
        rw [← he]
        unfold undB
        rw [rch_step hpu hlt hxu]
        rfl)
      have i1 : (x : Int) < (u : Int) := by omega
      clear he hpu
      go_wp2
      go_round
      case rel => exact ⟨p, by omega, rfl, HE.out⟩
      case measure => simp [intOf] <;> omega
    · have HE := Lib.hid he
      clear he
      by_cases hux : u = x
      · subst hux
        have HT : Hid (undB P u y = true) := Lib.hid (by rw [← HE.out]; exact rch_self)
        go_wp2
        go_ret
        exact ⟨by rw [HT.out] <;> rfl, HB1⟩
      · have HT : Hid (undB P x y = false) := Lib.hid (by rw [← HE.out]; exact rch_low (by omega))
        have e1 : ((u : Int) == (x : Int)) = false := by simp; omega
        clear hux
        go_wp2
        go_ret
        exact ⟨by rw [HT.out] <;> rfl, HB1⟩
/-- The state of the search. -/
structure BeR (w wr : World) (x y z : Value) (f : Int × Int) : Prop where
  bx : Bx3 wr w.heap.size x y z
  br : Bx wr (w.heap.size + 1) (.int .i64 0) (.int .i64 0)
  bb : Bx wr (w.heap.size + 2) (.int .i64 f.1) (.int .i64 f.2)
  hb : Below w.heap.size w wr
section
variable {w wr wr' : World} {x y z : Value} {f : Int × Int}
theorem BeR.below (h : BeR w wr x y z f) (b : Below wr.heap.size wr wr') : BeR w wr' x y z f := ⟨h.bx.below b, h.br.below b, h.bb.below b, bUp h.hb b h.hb.size⟩
theorem BeR.grown {g : Nat} (h : BeR w wr x y z f) (hg : wr.grownBy wr' (some g)) (hn : w.heap.size + 2 < g) : BeR w wr' x y z f :=
  ⟨h.bx.grown hg (by omega), h.br.grown hg (by simp; omega), h.bb.grown hg (by simp; omega), h.hb.grown hg h.hb.size (fun k hk => by injection hk with hk; omega)⟩
theorem BeR.set (h : BeR w wr x y z f) (s t : Int) : BeR w ((wr.setCell ⟨w.heap.size + 2, 0, none⟩ (.int .i64 s)).setCell ⟨w.heap.size + 2, 1, none⟩ (.int .i64 t)) x y z (s, t) := by
  have hg : wr.grownBy ((wr.setCell ⟨w.heap.size + 2, 0, none⟩ (.int .i64 s)).setCell ⟨w.heap.size + 2, 1, none⟩ (.int .i64 t)) (some (w.heap.size + 2)) := (grown_setCell wr ⟨w.heap.size + 2, 0, none⟩ _).trans (grown_setCell _ ⟨w.heap.size + 2, 1, none⟩ _)
  exact ⟨h.bx.grown hg (by omega), h.br.grown hg (by simp), by simpa using bx_put h.bb (.int .i64 s) (.int .i64 t), h.hb.grown hg h.hb.size (fun k hk => by injection hk with hk; omega)⟩
end
theorem wt_end {P W F : List Int} (h : ArmOk P W F) {y : Nat} (hy : y < P.length) (he : endB P y = true) : 0 < nth W y := by
  have := h.tree.wt y hy
  rw [if_pos he] at this
  omega
theorem wt_in {P W F : List Int} (h : ArmOk P W F) {y : Nat} (hy : y < P.length) (he : endB P y = false) : ¬ 0 < nth W y := by
  have := h.tree.wt y hy
  rw [if_neg (by rw [he]; simp)] at this
  omega
set_option maxRecDepth 20000 in
set_option maxHeartbeats 4000000 in
theorem l8Best_c (A1 : Option Addr) (P : List Int) (c1 : Nat) (A2 : Option Addr) (W : List Int) (c2 : Nat) (A3 : Option Addr) (F : List Int) (c3 : Nat) (a b : Int) (hk : ArmAB P W F a b) (gf cf Bf : Nat) (ps : List (Int × Int)) (x : Nat) (w : World) (h : RdM w A1 P A2 W A3 F) (hx : x < P.length) (hex : endB P x = false) (ho : OwnP w Bf (some ⟨gf, 0, none⟩) cf ps) (hpl : ps.length = P.length) (hps : ∀ z, x < z → z < P.length → endB P z = false → nP ps z = idxP P W F a b z) :
    Calls Try.prog 117 #[mkV A1 P.length c1 A2 W.length c2 A3 F.length c3, .int .i64 a, .int .i64 b, .slice (some ⟨gf, 0, none⟩) P.length cf, .int .i64 (x : Int)] w (Quietly w (.agg #[.int .i64 (idxP P W F a b x).1, .int .i64 (idxP P W F a b x).2])) := by
  have HPS := Lib.hid hps
  have HPL := Lib.hid hpl
  have HEX := Lib.hid hex
  have hok := hk.arm
  have hn1 := hok.tree.n1
  have hn2 := hok.tree.n2
  have hn9 := hok.n9
  have hpar := hok.tree.par
  have HFL := Lib.hid hok.len
  have HWL := Lib.hid hok.tree.len
  have HFR := Lib.hid (fun z (hz : z < P.length) => frP_iff.1 (idx_fr hk hz))
  clear hps hpl hex
  obtain ⟨a3, rfl, q3⟩ := h.r3.intN (k := x) (by rw [HFL.out]; exact hx)
  obtain ⟨a2, rfl, _⟩ := h.r2.intN (k := x) (by rw [HWL.out]; exact hx)
  have HB1 : Below w.heap.size w ((w.alloc (.cells #[.slice A1 P.length c1, .slice (some a2) W.length c2, .slice (some a3) F.length c3] 28)).alloc (.cells #[.int .i64 0, .int .i64 0] 31)) := ((Below.refl _ _).alloc (Nat.le_refl _) _).alloc (by simp) _
  have bx := (Bx3.new w (.slice A1 P.length c1) (.slice (some a2) W.length c2) (.slice (some a3) F.length c3) 28).alloc (.cells #[.int .i64 0, .int .i64 0] 31)
  have br := Bx.new (w.alloc (.cells #[.slice A1 P.length c1, .slice (some a2) W.length c2, .slice (some a3) F.length c3] 28)) (.int .i64 0) (.int .i64 0) 31
  simp only [World.size_alloc] at br
  have i2 : (x : Int) < (F.length : Int) := by rw [HFL.out]; omega
  have i3 : x < F.length := by omega
  have q31 := (HB1.cell (cell_lt q3)).trans q3
  have bb := Bx.new ((w.alloc (.cells #[.slice A1 P.length c1, .slice (some a2) W.length c2, .slice (some a3) F.length c3] 28)).alloc (.cells #[.int .i64 0, .int .i64 0] 31)) (.int .i64 (nth F x)) (.int .i64 1) 31
  simp only [World.size_alloc] at bb
  have R0 := BeR.mk (w := w) (f := (nth F x, 1)) (bx.alloc (.cells #[.int .i64 (nth F x), .int .i64 1] 31)) (br.alloc (.cells #[.int .i64 (nth F x), .int .i64 1] 31)) bb (HB1.alloc HB1.size _)
  obtain ⟨f0, f1, f2, fz⟩ := id bx
  rw [← rfB_start (P := P) (W := W) (a := a) (b := b) (f := nP ps)] at R0
  have R0 := Lib.hid R0
  clear bx br bb
  go_enter Try.func117, Try.ntmps117
  go_wp2_with fail
  clear f0 f1 f2 fz q31 q3
  go_loopw [12] (fun t wr => ∃ y : Nat, x + 1 ≤ y ∧ y ≤ P.length ∧ t = .int .i64 (y : Int) ∧ BeR w wr (.slice A1 P.length c1) (.slice (some a2) W.length c2) (.slice (some a3) F.length c3) (rfB P W F a b (nP ps) x y)) (fun t _ => P.length - (intOf t).toNat)
  case atStart => exact ⟨x + 1, Nat.le_refl _, by omega, by go_num, R0.out⟩
  case round =>
    clear R0
    obtain ⟨y, hy1, hy2, rfl, R⟩ := hrel
    obtain ⟨wo, rfl⟩ : ∃ wo : World, wo = wr := ⟨_, rfl⟩
    obtain ⟨f0, f1, f2, fz⟩ := id R.bx
    by_cases hlt : y < P.length
    · have hxy : x < y := by omega
      go_wp2_with fail
      refine (l2Under_c A1 P c1 (some a2) W.length c2 x y _ (h.below R.hb (Nat.le_refl _)).r1 hpar hlt hx).mono ?_
      rintro e w3 ⟨rfl, b3⟩
      have R3 := R.below b3
      clear R f0 f1 f2 fz b3
      obtain ⟨f0, f1, f2, fz⟩ := id R3.bx
      cases hu : undB P x y
      · have HS := Lib.hid (rfB_no1 (W := W) (F := F) (a := a) (b := b) (f := nP ps) hu)
        clear hu
        go_wp2
        go_roundw
        case rel => exact ⟨y + 1, by omega, by omega, by go_num, by rw [HS.out]; exact R3⟩
        case measure => simp [intOf] <;> omega
      · obtain ⟨aq, eq, q2⟩ := (h.below R3.hb (Nat.le_refl _)).r2.intN (k := y) (by rw [HWL.out]; exact hlt)
        injection eq with eq
        subst eq
        have k1 : (y : Int) < (W.length : Int) := by rw [HWL.out]; omega
        have k2 : y < W.length := by omega
        cases hey : endB P y
        · have hwy := wt_in hok hlt hey
          have HS := Lib.hid (rfB_yes (W := W) (F := F) (a := a) (b := b) (f := nP ps) hxy hu hey)
          have HFY : Hid (nP ps y = idxP P W F a b y) := Lib.hid (HPS.out y hxy hlt hey)
          have HEY := Lib.hid hey
          clear hu hey
          go_wp2_with (at_make; refine wp_make_bools _ w3.heap.size rfl rfl _ _ rfl _ _ _ _ P.length rfl rfl rfl rfl (by omega) ?_; intro w4 ob b4)
          have R4 := R3.below b4
          have szz : w.heap.size + 2 < w3.heap.size := R3.bb.2.2.2.2
          have ob0 : OwnB w4 w3.heap.size (some ⟨w3.heap.size, 0, none⟩) P.length (inM P (nP ps) x y (x + 1)) := by rw [inM_start]; exact ob
          clear R3 f0 f1 f2 fz b4 q2 ob
          go_loopw [14] (fun t wr => ∃ z : Nat, x + 1 ≤ z ∧ z ≤ P.length ∧ t = .int .i64 (z : Int) ∧ OwnB wr w3.heap.size (some ⟨w3.heap.size, 0, none⟩) P.length (inM P (nP ps) x y z) ∧ BeR w wr (.slice A1 P.length c1) (.slice (some a2) W.length c2) (.slice (some a3) F.length c3) (rfB P W F a b (nP ps) x y)) (fun t _ => P.length - (intOf t).toNat)
          case atStart => exact ⟨x + 1, Nat.le_refl _, by omega, by go_num, ob0, R4⟩
          case round =>
            clear ob0 R4
            obtain ⟨z, hz1, hz2, rfl, ob, R⟩ := hrel
            obtain ⟨v, rfl⟩ : ∃ v : World, v = wr := ⟨_, rfl⟩
            obtain ⟨f0, f1, f2, fz⟩ := id R.bx
            by_cases hlz : z < P.length
            · have hxz : x < z := by omega
              obtain ⟨aq, eq, q2⟩ := (h.below R.hb (Nat.le_refl _)).r2.intN (k := z) (by rw [HWL.out]; exact hlz)
              injection eq with eq
              subst eq
              have k1 : (z : Int) < (W.length : Int) := by rw [HWL.out]; omega
              have k0 : (0 : Int) ≤ (z : Int) := by omega
              have k3 : (z : Int) < (P.length : Int) := by omega
              have k4 : (y : Int) < (P.length : Int) := by omega
              have k5 : (0 : Int) ≤ (y : Int) := by omega
              have HST := Lib.hid (inM_step (P := P) (f := nP ps) (x := x) (y := y) (z := z))
              cases hez : endB P z
              · have e1 := neB_wt hok hlz hez
                have HIY := Lib.hid (inY_in (f := nP ps) (y := y) hxz hez)
                have ob1 := ho.below R.hb
                obtain ⟨cz0, cz1⟩ := ob1.cells (k := z) (by rw [HPL.out]; exact hlz)
                obtain ⟨cy0, cy1⟩ := ob1.cells (k := y) (by rw [HPL.out]; exact hlt)
                have HFZ := HPS.out z hxz hlz hez
                change v.cell? ⟨gf, z * 2, none⟩ = some (.int .i64 (nP ps z).1) at cz0
                change v.cell? ⟨gf, z * 2 + 1, none⟩ = some (.int .i64 (nP ps z).2) at cz1
                change v.cell? ⟨gf, y * 2, none⟩ = some (.int .i64 (nP ps y).1) at cy0
                change v.cell? ⟨gf, y * 2 + 1, none⟩ = some (.int .i64 (nP ps y).2) at cy1
                rw [HFZ] at cz0 cz1
                rw [HFY.out] at cy0 cy1
                rw [HFZ, HFY.out] at HIY
                have g1 := HFR.out z hlz
                have g2 := HFR.out y hlt
                have gl := ob1.ltk gf rfl
                obtain ⟨Q, hQ⟩ : ∃ Q, Q = lessP (idxP P W F a b z) (idxP P W F a b y) := ⟨_, rfl⟩
                rw [← hQ] at HIY
                have HQ := Lib.hid hQ.symm
                clear hQ
                clear hez ob1 HFZ
                go_upto_region 10 with fail
                have hd1 : Below v.heap.size v v.drew := Below.drew (Below.refl _ _)
                have SK1 : Hid (∀ w', Below v.heap.size v w' → w'.cell? ⟨w.heap.size, 0, none⟩ = some (.slice A1 P.length c1) ∧ w'.cell? ⟨w.heap.size, 1, none⟩ = some (.slice (some a2) W.length c2) ∧ w'.cell? (a2.add z) = some (.int .i64 (nth W z)) ∧ w'.cell? ⟨gf, z * 2, none⟩ = some (.int .i64 (idxP P W F a b z).1) ∧ w'.cell? ⟨gf, z * 2 + 1, none⟩ = some (.int .i64 (idxP P W F a b z).2) ∧ w'.cell? ⟨gf, y * 2, none⟩ = some (.int .i64 (idxP P W F a b y).1) ∧ w'.cell? ⟨gf, y * 2 + 1, none⟩ = some (.int .i64 (idxP P W F a b y).2)) := Lib.hid fun w' HV => ⟨(HV.cell (p := ⟨w.heap.size, 0, none⟩) fz).trans f0, (HV.cell (p := ⟨w.heap.size, 1, none⟩) fz).trans f1, (HV.cell (cell_lt q2)).trans q2, (HV.cell (p := ⟨gf, z * 2, none⟩) gl).trans cz0, (HV.cell (p := ⟨gf, z * 2 + 1, none⟩) gl).trans cz1, (HV.cell (p := ⟨gf, y * 2, none⟩) gl).trans cy0, (HV.cell (p := ⟨gf, y * 2 + 1, none⟩) gl).trans cy1⟩
                clear f0 f1 q2 cz0 cz1 cy0 cy1
                have hS1_0 := SK1.out _ hd1
                refine tamed_region (S := fun w' => w'.cell? ⟨w.heap.size, 0, none⟩ = some (.slice A1 P.length c1) ∧ w'.cell? ⟨w.heap.size, 1, none⟩ = some (.slice (some a2) W.length c2) ∧ w'.cell? (a2.add z) = some (.int .i64 (nth W z)) ∧ w'.cell? ⟨gf, z * 2, none⟩ = some (.int .i64 (idxP P W F a b z).1) ∧ w'.cell? ⟨gf, z * 2 + 1, none⟩ = some (.int .i64 (idxP P W F a b z).2) ∧ w'.cell? ⟨gf, y * 2, none⟩ = some (.int .i64 (idxP P W F a b y).1) ∧ w'.cell? ⟨gf, y * 2 + 1, none⟩ = some (.int .i64 (idxP P W F a b y).2)) (fun k => k == 22) (by kernel_rfl) ?_
                refine tame0 (k := 0) ?_ rfl (by kernel_rfl) (by kernel_rfl) (by kernel_rfl) (fun _ _ _ h => h) (by kernel_rfl) (fun v => ?_) ?_
                rotate_left
                · (go_simp; all_goals rfl)
                simp only [Act.put, List.setIfInBounds_toArray]
                refine tame0 (k := 1) ?_ rfl (by kernel_rfl) (by kernel_rfl) (by kernel_rfl) (fun _ _ _ h => h) (by kernel_rfl) (fun v => ?_) ?_
                rotate_left
                · (go_simp; all_goals rfl)
                simp only [Act.put]
                refine tame0 (k := 2) ?_ rfl (by kernel_rfl) (by kernel_rfl) (by kernel_rfl) (fun _ _ _ h => h) (by kernel_rfl) (fun v => ?_) ?_
                rotate_left
                · (go_simp; all_goals rfl)
                simp only [Act.put]
                refine tame0 (k := 3) ?_ rfl (by kernel_rfl) (by kernel_rfl) (by kernel_rfl) (fun _ _ _ h => h) (by kernel_rfl) (fun v => ?_) ?_
                rotate_left
                · (go_simp; all_goals rfl)
                simp only [Act.put]
                refine tameT (k := 4) ?_ rfl (by kernel_rfl) (by kernel_rfl) (by kernel_rfl) (by kernel_rfl) (by kernel_rfl) (fun _ _ _ h => h) (by kernel_rfl) hS1_0 (fun v hv => ?_) ?_
                rotate_left
                · (obtain ⟨k1, k2, k3, k4, k5, k6, k7⟩ := hv; go_simp; all_goals rfl)
                simp only [Act.put]
                refine tame0 (k := 5) ?_ rfl (by kernel_rfl) (by kernel_rfl) (by kernel_rfl) (fun _ _ _ h => h) (by kernel_rfl) (fun v => ?_) ?_
                rotate_left
                · (go_simp; all_goals rfl)
                simp only [Act.put]
                refine tame0 (k := 6) ?_ rfl (by kernel_rfl) (by kernel_rfl) (by kernel_rfl) (fun _ _ _ h => h) (by kernel_rfl) (fun v => ?_) ?_
                rotate_left
                · (go_simp; all_goals rfl)
                simp only [Act.put]
                refine tameT (k := 7) ?_ rfl (by kernel_rfl) (by kernel_rfl) (by kernel_rfl) (by kernel_rfl) (by kernel_rfl) (fun _ _ _ h => h) (by kernel_rfl) hS1_0 (fun v hv => ?_) ?_
                rotate_left
                · (obtain ⟨k1, k2, k3, k4, k5, k6, k7⟩ := hv; go_simp; all_goals rfl)
                simp only [Act.put]
                refine tame0 (k := 8) ?_ rfl (by kernel_rfl) (by kernel_rfl) (by kernel_rfl) (fun _ _ _ h => h) (by kernel_rfl) (fun v => ?_) ?_
                rotate_left
                · (go_simp; all_goals rfl)
                simp only [Act.put]
                refine tame0 (k := 9) ?_ rfl (by kernel_rfl) (by kernel_rfl) (by kernel_rfl) (fun _ _ _ h => h) (by kernel_rfl) (fun v => ?_) ?_
                rotate_left
                · (go_simp; all_goals rfl)
                simp only [Act.put]
                refine tame0 (k := 10) ?_ rfl (by kernel_rfl) (by kernel_rfl) (by kernel_rfl) (fun _ _ _ h => h) (by kernel_rfl) (fun v => ?_) ?_
                rotate_left
                · (go_simp; all_goals rfl)
                simp only [Act.put]
                refine tame0 (k := 11) ?_ rfl (by kernel_rfl) (by kernel_rfl) (by kernel_rfl) (fun _ _ _ h => h) (by kernel_rfl) (fun v => ?_) ?_
                rotate_left
                · (go_simp; all_goals rfl)
                simp only [Act.put]
                refine tame0 (k := 12) ?_ rfl (by kernel_rfl) (by kernel_rfl) (by kernel_rfl) (fun _ _ _ h => h) (by kernel_rfl) (fun v => ?_) ?_
                rotate_left
                · (go_simp; all_goals rfl)
                simp only [Act.put]
                refine tameT (k := 13) ?_ rfl (by kernel_rfl) (by kernel_rfl) (by kernel_rfl) (by kernel_rfl) (by kernel_rfl) (fun _ _ _ h => h) (by kernel_rfl) hS1_0 (fun v hv => ?_) ?_
                rotate_left
                · (obtain ⟨k1, k2, k3, k4, k5, k6, k7⟩ := hv; go_simp; all_goals rfl)
                simp only [Act.put]
                refine tame0 (k := 14) ?_ rfl (by kernel_rfl) (by kernel_rfl) (by kernel_rfl) (fun _ _ _ h => h) (by kernel_rfl) (fun v => ?_) ?_
                rotate_left
                · (go_simp; all_goals rfl)
                simp only [Act.put]
                refine tame0 (k := 15) ?_ rfl (by kernel_rfl) (by kernel_rfl) (by kernel_rfl) (fun _ _ _ h => h) (by kernel_rfl) (fun v => ?_) ?_
                rotate_left
                · (go_simp; all_goals rfl)
                simp only [Act.put]
                refine tame0 (k := 16) ?_ rfl (by kernel_rfl) (by kernel_rfl) (by kernel_rfl) (fun _ _ _ h => h) (by kernel_rfl) (fun v => ?_) ?_
                rotate_left
                · (go_simp; all_goals rfl)
                simp only [Act.put]
                refine tameT (k := 17) ?_ rfl (by kernel_rfl) (by kernel_rfl) (by kernel_rfl) (by kernel_rfl) (by kernel_rfl) (fun _ _ _ h => h) (by kernel_rfl) hS1_0 (fun v hv => ?_) ?_
                rotate_left
                · (obtain ⟨k1, k2, k3, k4, k5, k6, k7⟩ := hv; go_simp; all_goals rfl)
                simp only [Act.put]
                refine tame_one (k := 18) (by kernel_rfl) rfl (by kernel_rfl) ?_
                go_simp
                refine (l2Less_is _ _ _ _ Q HQ.out (by omega) (by omega) (by omega) (by omega) (by omega) (by omega) (by omega) (by omega) _).mono ?_
                rintro e w5 ⟨rfl, b5⟩
                have hd1_1 := bUp hd1 b5 (Nat.le_refl _)
                have hS1_1 := Lib.hid (SK1.out _ hd1_1)
                refine ⟨by first | exact hS1_1 | exact Hid.out hS1_1, ?_⟩
                refine tame_one (k := 19) (by kernel_rfl) rfl (by kernel_rfl) ?_
                go_simp
                refine ⟨by first | exact hS1_1 | exact Hid.out hS1_1, ?_⟩
                refine tame_one (k := 20) (by kernel_rfl) rfl (by kernel_rfl) ?_
                go_simp
                refine ⟨by first | exact hS1_1 | exact Hid.out hS1_1, ?_⟩
                refine tame_one (k := 21) (by kernel_rfl) rfl (by kernel_rfl) ?_
                go_simp
                refine ⟨by first | exact hS1_1 | exact Hid.out hS1_1, ?_⟩
                have H5 := (Below.drew (Below.refl v.heap.size v)).trans b5
                have ob5 := ob.below H5
                have oc5 := ob5.cell (k := z) (by rw [inM_len]; exact hlz)
                have of5 := ob5.frozen z
                have hst := ob5.set z (!Q)
                rw [← HIY.out, HST.out] at hst
                have R5 := (R.below H5).grown hst.2 szz
                rw [HIY.out] at R5 hst
                refine tame_one (k := 22) (by kernel_rfl) rfl (by kernel_rfl) ?_
                go_simp
                try (refine ⟨fun h => absurd h (by decide), ?_⟩)
                refine tame_end (by kernel_rfl) ?_
                clear SK1 hd1 hd1_1 hS1_0 hS1_1 oc5 of5 ob5 ob R
                go_wp2_with fail
                go_roundw
                case rel => exact ⟨z + 1, by omega, by omega, by go_num, hst.1, R5⟩
                case measure => simp [intOf] <;> omega
              · have e1 := neB_wt hok hlz hez
                have HIY := Lib.hid (inY_end (f := nP ps) (x := x) (y := y) hez)
                clear hez
                go_upto_region 10 with fail
                have hd2 : Below v.heap.size v v.drew := Below.drew (Below.refl _ _)
                have SK2 : Hid (∀ w', Below v.heap.size v w' → w'.cell? ⟨w.heap.size, 0, none⟩ = some (.slice A1 P.length c1) ∧ w'.cell? ⟨w.heap.size, 1, none⟩ = some (.slice (some a2) W.length c2) ∧ w'.cell? (a2.add z) = some (.int .i64 (nth W z))) := Lib.hid fun w' HV => ⟨(HV.cell (p := ⟨w.heap.size, 0, none⟩) fz).trans f0, (HV.cell (p := ⟨w.heap.size, 1, none⟩) fz).trans f1, (HV.cell (cell_lt q2)).trans q2⟩
                clear f0 f1 q2
                have hS2_0 := SK2.out _ hd2
                refine tamed_region (S := fun w' => w'.cell? ⟨w.heap.size, 0, none⟩ = some (.slice A1 P.length c1) ∧ w'.cell? ⟨w.heap.size, 1, none⟩ = some (.slice (some a2) W.length c2) ∧ w'.cell? (a2.add z) = some (.int .i64 (nth W z))) (fun k => k == 22) (by kernel_rfl) ?_
                refine tame0 (k := 0) ?_ rfl (by kernel_rfl) (by kernel_rfl) (by kernel_rfl) (fun _ _ _ h => h) (by kernel_rfl) (fun v => ?_) ?_
                rotate_left
                · (go_simp; all_goals rfl)
                simp only [Act.put, List.setIfInBounds_toArray]
                refine tame0 (k := 1) ?_ rfl (by kernel_rfl) (by kernel_rfl) (by kernel_rfl) (fun _ _ _ h => h) (by kernel_rfl) (fun v => ?_) ?_
                rotate_left
                · (go_simp; all_goals rfl)
                simp only [Act.put]
                refine tame0 (k := 2) ?_ rfl (by kernel_rfl) (by kernel_rfl) (by kernel_rfl) (fun _ _ _ h => h) (by kernel_rfl) (fun v => ?_) ?_
                rotate_left
                · (go_simp; all_goals rfl)
                simp only [Act.put]
                refine tame0 (k := 3) ?_ rfl (by kernel_rfl) (by kernel_rfl) (by kernel_rfl) (fun _ _ _ h => h) (by kernel_rfl) (fun v => ?_) ?_
                rotate_left
                · (go_simp; all_goals rfl)
                simp only [Act.put]
                refine tameT (k := 4) ?_ rfl (by kernel_rfl) (by kernel_rfl) (by kernel_rfl) (by kernel_rfl) (by kernel_rfl) (fun _ _ _ h => h) (by kernel_rfl) hS2_0 (fun v hv => ?_) ?_
                rotate_left
                · (obtain ⟨k1, k2, k3⟩ := hv; go_simp; all_goals rfl)
                simp only [Act.put]
                refine tame0 (k := 5) ?_ rfl (by kernel_rfl) (by kernel_rfl) (by kernel_rfl) (fun _ _ _ h => h) (by kernel_rfl) (fun v => ?_) ?_
                rotate_left
                · (go_simp; all_goals rfl)
                simp only [Act.put]
                refine tame0 (k := 6) ?_ rfl (by kernel_rfl) (by kernel_rfl) (by kernel_rfl) (fun _ _ _ h => h) (by kernel_rfl) (fun v => ?_) ?_
                rotate_left
                · (go_simp; all_goals rfl)
                simp only [Act.put]
                refine tameT (k := 7) ?_ rfl (by kernel_rfl) (by kernel_rfl) (by kernel_rfl) (by kernel_rfl) (by kernel_rfl) (fun _ _ _ h => h) (by kernel_rfl) hS2_0 (fun v hv => ?_) ?_
                rotate_left
                · (obtain ⟨k1, k2, k3⟩ := hv; go_simp; all_goals rfl)
                simp only [Act.put]
                refine tame0 (k := 8) ?_ rfl (by kernel_rfl) (by kernel_rfl) (by kernel_rfl) (fun _ _ _ h => h) (by kernel_rfl) (fun v => ?_) ?_
                rotate_left
                · (go_simp; all_goals rfl)
                simp only [Act.put]
                refine tame0 (k := 9) ?_ rfl (by kernel_rfl) (by kernel_rfl) (by kernel_rfl) (fun _ _ _ h => h) (by kernel_rfl) (fun v => ?_) ?_
                rotate_left
                · (go_simp; all_goals rfl)
                simp only [Act.put]
                refine tame_no (k := 10) rfl (by kernel_rfl) (by kernel_rfl) (by kernel_rfl) (fun _ _ _ h => h) (by kernel_rfl) ?_
                simp only [Act.put]
                refine tame_no (k := 11) rfl (by kernel_rfl) (by kernel_rfl) (by kernel_rfl) (fun _ _ _ h => h) (by kernel_rfl) ?_
                simp only [Act.put]
                refine tame_no (k := 12) rfl (by kernel_rfl) (by kernel_rfl) (by kernel_rfl) (fun _ _ _ h => h) (by kernel_rfl) ?_
                simp only [Act.put]
                refine tame_no (k := 13) rfl (by kernel_rfl) (by kernel_rfl) (by kernel_rfl) (fun _ _ _ h => h) (by kernel_rfl) ?_
                simp only [Act.put]
                refine tame_no (k := 14) rfl (by kernel_rfl) (by kernel_rfl) (by kernel_rfl) (fun _ _ _ h => h) (by kernel_rfl) ?_
                simp only [Act.put]
                refine tame_no (k := 15) rfl (by kernel_rfl) (by kernel_rfl) (by kernel_rfl) (fun _ _ _ h => h) (by kernel_rfl) ?_
                simp only [Act.put]
                refine tame_no (k := 16) rfl (by kernel_rfl) (by kernel_rfl) (by kernel_rfl) (fun _ _ _ h => h) (by kernel_rfl) ?_
                simp only [Act.put]
                refine tame_no (k := 17) rfl (by kernel_rfl) (by kernel_rfl) (by kernel_rfl) (fun _ _ _ h => h) (by kernel_rfl) ?_
                simp only [Act.put]
                refine tame_no (k := 18) rfl (by kernel_rfl) (by kernel_rfl) (by kernel_rfl) (fun _ _ _ h => h) (by kernel_rfl) ?_
                simp only [Act.put]
                refine tame_no (k := 19) rfl (by kernel_rfl) (by kernel_rfl) (by kernel_rfl) (fun _ _ _ h => h) (by kernel_rfl) ?_
                simp only [Act.put]
                refine tame0 (k := 20) ?_ rfl (by kernel_rfl) (by kernel_rfl) (by kernel_rfl) (fun _ _ _ h => h) (by kernel_rfl) (fun v => ?_) ?_
                rotate_left
                · (go_simp; all_goals rfl)
                simp only [Act.put]
                refine tame0 (k := 21) ?_ rfl (by kernel_rfl) (by kernel_rfl) (by kernel_rfl) (fun _ _ _ h => h) (by kernel_rfl) (fun v => ?_) ?_
                rotate_left
                · (go_simp; all_goals rfl)
                simp only [Act.put]
                have H5 := Below.drew (Below.refl v.heap.size v)
                have ob5 := ob.below H5
                have oc5 := ob5.cell (k := z) (by rw [inM_len]; exact hlz)
                have of5 := ob5.frozen z
                have hst := ob5.set z false
                rw [← HIY.out, HST.out] at hst
                have R5 := (R.below H5).grown hst.2 szz
                rw [HIY.out] at R5 hst
                refine tame_one (k := 22) (by kernel_rfl) rfl (by kernel_rfl) ?_
                go_simp
                try (refine ⟨fun h => absurd h (by decide), ?_⟩)
                refine tame_end (by kernel_rfl) ?_
                clear SK2 hd2 hS2_0 oc5 of5 ob5 ob R
                go_wp2_with fail
                go_roundw
                case rel => exact ⟨z + 1, by omega, by omega, by go_num, hst.1, R5⟩
                case measure => simp [intOf] <;> omega
            · obtain rfl : z = P.length := by omega
              clear hwy
              have gnB := gnR_bd hk (nthB (inM P (nP ps) x y P.length)) x
              have tmB := tmR_bd hk (nthB (inM P (nP ps) x y P.length)) x
              have tmP := tmR_pos hok hk.a1 (b := b) (by have := hk.a1; have := hk.ab; omega) hx (nthB (inM P (nP ps) x y P.length))
              have HPR := Lib.hid (inM_pr (f := nP ps) (x := x) hk y)
              have HQF := Lib.hid (frP_iff.1 (prI_fr hk hx (inY P (nP ps) x y)))
              have HBF := Lib.hid (frP_iff.1 (rfB_fr (f := nP ps) (k := y) hk hx))
              go_wp2_with fail
              refine (l8Pair_c A1 P c1 (some a2) W c2 (some a3) F c3 a b hk w3.heap.size P.length w3.heap.size (inM P (nP ps) x y P.length) (inM_len _ _) P.length x _ (by omega) hx (h.below R.hb (Nat.le_refl _)) ob).mono ?_
              rintro e w5 ⟨rfl, b5⟩
              have R5 := (R.below b5).below ((Below.refl _ _).alloc (Nat.le_refl _) (.cells #[.int .i64 (gnR P W F a b (nthB (inM P (nP ps) x y P.length)) x), .int .i64 (tmR P W a b (nthB (inM P (nP ps) x y P.length)) x)] 31))
              clear R f0 f1 f2 fz b5 ob
              have HPQ : Hid ((cutT (gnR P W F a b (nthB (inM P (nP ps) x y P.length)) x) (tmR P W a b (nthB (inM P (nP ps) x y P.length)) x), cutB (gnR P W F a b (nthB (inM P (nP ps) x y P.length)) x) (tmR P W a b (nthB (inM P (nP ps) x y P.length)) x)) = prI P W F a b (inY P (nP ps) x y) x) := Lib.hid HPR.out
              go_wp2_with fail
              refine (l2Cut_c _ _ (by omega) (by omega) (by omega) (by omega) _).mono ?_
              rintro e w6 ⟨rfl, b6⟩
              have R6 := R5.below b6
              generalize cutT (gnR P W F a b (nthB (inM P (nP ps) x y P.length)) x) (tmR P W a b (nthB (inM P (nP ps) x y P.length)) x) = q1 at *
              generalize cutB (gnR P W F a b (nthB (inM P (nP ps) x y P.length)) x) (tmR P W a b (nthB (inM P (nP ps) x y P.length)) x) = q2 at *
              clear R5 b6 gnB tmB tmP
              have QF := HQF.out
              have BF := HBF.out
              rw [← HPQ.out] at QF
              simp only at QF
              have R7 := R6.below ((Below.refl _ _).alloc (Nat.le_refl _) (.cells #[.int .i64 q1, .int .i64 q2] 31))
              have bq := Bx.new w6 (.int .i64 q1) (.int .i64 q2) 31
              obtain ⟨p0, p1, p2, p3, p4⟩ := id R6.bb
              obtain ⟨Q, hQ⟩ : ∃ Q, Q = betP true (q1, q2) (rfB P W F a b (nP ps) x y) := ⟨_, rfl⟩
              have HS2 : Hid (rfB P W F a b (nP ps) x (y + 1) = if Q = true then (q1, q2) else rfB P W F a b (nP ps) x y) := Lib.hid (by rw [HS.out, ← HPQ.out, hQ])
              have HQ : Hid (decide ((rfB P W F a b (nP ps) x y).1 * q2 < q1 * (rfB P W F a b (nP ps) x y).2) = Q) := Lib.hid (by rw [hQ]; rfl)
              clear hQ R6
              go_wp2_with fail
              refine (l2Less_is _ _ _ _ Q HQ.out (by omega) (by omega) (by omega) (by omega) (by omega) (by omega) (by omega) (by omega) _).mono ?_
              rintro e w8 ⟨rfl, b8⟩
              have R8 := R7.below b8
              have bq8 := bq.below b8
              clear R7 p0 p1 p2 p3 p4 bq b8
              obtain ⟨p0, p1, p2, p3, p4⟩ := id R8.bb
              obtain ⟨u0, u1, u2, u3, u4⟩ := id bq8
              cases Q
              · go_wp2
                go_roundw
                case rel => exact ⟨y + 1, by omega, by omega, by go_num, by rw [HS2.out]; exact R8⟩
                case measure => simp [intOf] <;> omega
              · have R9 := R8.set q1 q2
                go_wp2
                go_roundw
                case rel => exact ⟨y + 1, by omega, by omega, by go_num, by rw [HS2.out]; exact R9⟩
                case measure => simp [intOf] <;> omega
        · have hwy := wt_end hok hlt hey
          have HS := Lib.hid (rfB_no2 (W := W) (F := F) (a := a) (b := b) (f := nP ps) (x := x) hey)
          clear hu hey
          go_wp2
          go_roundw
          case rel => exact ⟨y + 1, by omega, by omega, by go_num, by rw [HS.out]; exact R3⟩
          case measure => simp [intOf] <;> omega
    · obtain rfl : y = P.length := by omega
      have HV := Lib.hid (show rfB P W F a b (nP ps) x P.length = idxP P W F a b x from rf_idx hk hx HEX.out HPS.out)
      obtain ⟨p0, p1, p2, p3, p4⟩ := id R.bb
      rw [HV.out] at p0 p1
      obtain ⟨r0, r1, r2, r3, r4⟩ := id R.br
      go_wp2
      exact bodyPost_ret (v := .agg #[.int .i64 (idxP P W F a b x).1, .int .i64 (idxP P W F a b x).2]) (by simp [results, Try.results117, go_sem, r0, r1]) rfl ⟨rfl, by with_reducible repeat (first | exact R.hb | refine Below.setCell ?_ (by simp <;> omega) _)⟩

theorem madePairs (n : Nat) : (madeCells (Value.agg #[.int .i64 0, .int .i64 0]).cells (n * 2)).toList = pcells (List.replicate n (0, 0)) := by
  have hr : ∀ u ∈ pcells (List.replicate n (0, 0)), u = Value.int .i64 0 := by
    intro u hu
    simp only [pcells, List.mem_flatMap, List.mem_replicate, List.mem_cons, List.not_mem_nil, or_false] at hu
    obtain ⟨p, ⟨_, rfl⟩, rfl | rfl⟩ := hu <;> rfl
  apply List.ext_getElem
  · rw [pcells_length]; simp [madeCells]
  · intro i h1 h2
    rw [hr _ (List.getElem_mem h2)]
    have hz : (Value.agg #[.int .i64 0, .int .i64 0]).cells = #[.int .i64 0, .int .i64 0] := rfl
    simp only [madeCells, hz]
    have : i % 2 = 0 ∨ i % 2 = 1 := by omega
    rcases this with h | h <;> simp [h]
section
variable {o : Oper} {a : Act} {Q : Exit → Act → World → Prop}
theorem op_make_pairs {K : Act → World → Prop} (w : World) (l c : Operand) (hop : o.op = Op.makeSlice 34 l c) (kl kc : IntKind) (L C : Int) (n : Nat)
    (hl : a.eval l = .int kl L) (hc : a.eval c = .int kc C) (hL : L = (n : Int)) (hC : C = (n : Int)) (hn : n ≤ 16777216)
    (hK : ∀ w', OwnP w' w.heap.size (some ⟨w.heap.size, 0, none⟩) n (List.replicate n (0, 0)) → Below w.heap.size w w' → K (a.put o.dst (.slice (some ⟨w.heap.size, 0, none⟩) n n)) w') :
    o.wp Try.prog a w K Q := by
  obtain ⟨i0, hi, hz0, hz1, hz2⟩ := info_parts pair_info
  obtain ⟨w', hrun, r1, r2⟩ := run_make_full (P := Try.prog) w w.heap.size 34 31 i0 _ 2 Try.underlying34 hi hz0 hz1 kl kc n (by rw [hz2]; omega) (by unfold maxLen; omega) (Nat.le_refl _)
  subst hL
  subst hC
  unfold Oper.wp
  simp [execOp, hop, hl, hc, hrun, Result.andThen]
  refine hK w' ?_ (below_of_grown r2)
  unfold OwnP
  rw [← madePairs, List.length_replicate]
  exact r1
end
/-- A pair is stored. -/
theorem OwnP.set2 {w : World} {B g c : Nat} {ps : List (Int × Int)} (h : OwnP w B (some ⟨g, 0, none⟩) c ps) {k : Nat} (x y : Int) (hk : k < ps.length) :
    OwnP ((w.setCell ⟨g, k * 2, none⟩ (.int .i64 x)).setCell ⟨g, k * 2 + 1, none⟩ (.int .i64 y)) B (some ⟨g, 0, none⟩) c (ps.set k (x, y)) ∧ w.grownBy ((w.setCell ⟨g, k * 2, none⟩ (.int .i64 x)).setCell ⟨g, k * 2 + 1, none⟩ (.int .i64 y)) (some g) := by
  have h1 := h.set (j := 0) x hk (by decide)
  have h2 := h1.1.set (k := k) (j := 1) y (by rw [pset_length]; exact hk) (by decide)
  refine ⟨?_, h1.2.trans h2.2⟩
  have e : pset (pset ps k 0 x) k 1 y = ps.set k (x, y) := by
    unfold pset
    simp [pT, hk]
  rw [← e]
  exact h2.1
theorem OwnP.some2 {w : World} {B g c : Nat} {ps : List (Int × Int)} (h : OwnP w B (some ⟨g, 0, none⟩) c ps) {k : Nat} (hk : k < ps.length) : ∃ u v, w.cell? ⟨g, k * 2, none⟩ = some u ∧ w.cell? ⟨g, k * 2 + 1, none⟩ = some v := ⟨_, _, h.cells hk⟩
structure PrR (w wr : World) (go co : Nat) (out : List (Int × Int)) (x y z : Value) : Prop where
  o : OwnP wr (w.heap.size + 1) (some ⟨go, 0, none⟩) co out
  b : Bx3 wr w.heap.size x y z
  hb : Below w.heap.size w wr
theorem PrR.below {w wr w' : World} {go co : Nat} {out : List (Int × Int)} {x y z : Value} (R : PrR w wr go co out x y z) (h : Below wr.heap.size wr w') : PrR w w' go co out x y z := ⟨R.o.below h, R.b.below h, bUp R.hb h R.hb.size⟩
theorem PrR.lt {w wr : World} {go co : Nat} {out : List (Int × Int)} {x y z : Value} (R : PrR w wr go co out x y z) : go < wr.heap.size ∧ w.heap.size + 1 ≤ go ∧ w.heap.size < wr.heap.size := ⟨R.o.ltk go rfl, R.o.ge go rfl, R.b.2.2.2⟩
theorem PrR.set {w wr : World} {go co k : Nat} {out : List (Int × Int)} {x y z : Value} (R : PrR w wr go co out x y z) (s t : Int) (hk : k < out.length) : PrR w ((wr.setCell ⟨go, k * 2, none⟩ (.int .i64 s)).setCell ⟨go, k * 2 + 1, none⟩ (.int .i64 t)) go co (out.set k (s, t)) x y z := by
  have hge : w.heap.size + 1 ≤ go := R.o.ge go rfl
  have h2 := R.o.set2 s t hk
  exact ⟨h2.1, R.b.grown h2.2 (by omega), R.hb.grown h2.2 R.hb.size (fun j hj => by cases hj; omega)⟩
theorem PrR.other {w wr w' : World} {go co r : Nat} {out : List (Int × Int)} {x y z : Value} (R : PrR w wr go co out x y z) (hg : wr.grownBy w' (some r)) (hr : go < r) : PrR w w' go co out x y z := by
  have hl := R.lt
  exact ⟨R.o.grown hg (.inr (by simp [blk]; omega)), R.b.grown hg (by omega), R.hb.grown hg R.hb.size (fun j hj => by cases hj; omega)⟩
section
variable {ops : Array Oper} {rest : List Oper} {o : Oper} {a : Act} {Q : Exit → Act → World → Prop}
theorem wp_make_pairs (w : World) (H : Nat) (hH : w.heap.size = H) (hg : o.guard = none) (l c : Operand) (hop : o.op = Op.makeSlice 34 l c) (kl kc : IntKind) (L C : Int) (n : Nat)
    (hl : a.eval l = .int kl L) (hc : a.eval c = .int kc C) (hL : L = (n : Int)) (hC : C = (n : Int)) (hn : n ≤ 16777216)
    (hK : ∀ w', OwnP w' H (some ⟨H, 0, none⟩) n (List.replicate n (0, 0)) → Below w.heap.size w w' → wpList Try.prog ops Q rest (a.put o.dst (.slice (some ⟨H, 0, none⟩) n n)) w') :
    wpList Try.prog ops Q (o :: rest) a w := by
  subst hH
  exact wpList_plain hg fun _ h => op_make_pairs w l c hop kl kc L C n hl hc hL hC hn fun w' h1 h2 => h _ _ (hK w' h1 h2)
end

section
variable {P W F : List Int} {a b : Int}
/-- All indices. -/
def ixL (P W F : List Int) (a b : Int) : List (Int × Int) := (List.range P.length).map (idxP P W F a b)
/-- The indices from k on. -/
def ixD (P W F : List Int) (a b : Int) (k : Nat) : List (Int × Int) := (List.range P.length).map fun z => if k ≤ z then idxP P W F a b z else (0, 0)
/-- The indices below k. -/
def ixU (P W F : List Int) (a b : Int) (k : Nat) : List (Int × Int) := (List.range k).map (idxP P W F a b)
theorem ixL_len : (ixL P W F a b).length = P.length := by simp [ixL]
theorem ixD_len (k : Nat) : (ixD P W F a b k).length = P.length := by simp [ixD]
theorem ixU_len (k : Nat) : (ixU P W F a b k).length = k := by simp [ixU]
theorem ixD_all : ixD P W F a b 0 = ixL P W F a b := by simp [ixD, ixL]
theorem ixU_all : ixU P W F a b P.length = ixL P W F a b := rfl
theorem ixU_succ (k : Nat) : ixU P W F a b (k + 1) = ixU P W F a b k ++ [idxP P W F a b k] := by simp [ixU, List.range_succ]
theorem ixD_start : ixD P W F a b P.length = List.replicate P.length (0, 0) := by
  apply List.ext_getElem
  · simp [ixD]
  · intro i h1 h2
    simp only [ixD, List.getElem_map, List.getElem_range, List.getElem_replicate]
    rw [if_neg (by simp [ixD] at h1; omega)]
theorem ixD_nP {k z : Nat} (hz : z < P.length) (hk : k ≤ z) : nP (ixD P W F a b k) z = idxP P W F a b z := by
  simp [nP, ixD, List.getD_eq_getElem?_getD, hz, hk]
theorem ixD_step (k : Nat) : (ixD P W F a b (k + 1)).set k (idxP P W F a b k) = ixD P W F a b k := by
  apply List.ext_getElem
  · simp [ixD]
  · intro i h1 h2
    rw [List.getElem_set]
    simp only [ixD, List.getElem_map, List.getElem_range]
    by_cases h : k = i
    · subst h
      rw [if_pos rfl, if_pos (Nat.le_refl _)]
    · rw [if_neg h]
      by_cases h' : k ≤ i
      · rw [if_pos (by omega), if_pos h']
      · rw [if_neg (by omega), if_neg h']
theorem idx_end {x : Nat} (he : endB P x = true) : idxP P W F a b x = (0, 1) := by rw [idxP, he]; rfl
theorem ixL_nP {z : Nat} (hz : z < P.length) : nP (ixL P W F a b) z = idxP P W F a b z := by simp [nP, ixL, List.getD_eq_getElem?_getD, hz]
def ixB (P W F : List Int) (a b : Int) : Bool := armB P W F && discB a b
def ixV (P W F : List Int) (a b : Int) : List (Int × Int) := if ixB P W F a b then ixL P W F a b else []
theorem ixV_no (h : ixB P W F a b = false) : ixV P W F a b = [] := by rw [ixV, h]; rfl
theorem ixV_yes (h : ixB P W F a b = true) : ixV P W F a b = ixL P W F a b := by rw [ixV, h]; rfl
theorem ixV_len : (ixV P W F a b).length ≤ 9 := by
  unfold ixV
  split
  · next h =>
    have := (armAB_iff.1 h).arm.n9
    rw [ixL_len]
    exact this
  · exact Nat.zero_le _
end
theorem OwnP.lit0 (w : World) : OwnP (w.alloc (.cells #[] 31)) w.heap.size (some ⟨w.heap.size, 0, none⟩) 0 [] := by
  have := OwnP.lit w [] (by simp)
  simpa [pcells] using this
set_option maxRecDepth 20000 in
set_option maxHeartbeats 2000000 in
theorem l8Index_c (A1 : Option Addr) (P : List Int) (c1 : Nat) (A2 : Option Addr) (W : List Int) (c2 : Nat) (A3 : Option Addr) (F : List Int) (c3 : Nat) (a b : Int) (hk : ArmAB P W F a b) (w : World) (h : RdM w A1 P A2 W A3 F) :
    Calls Try.prog 62 #[mkV A1 P.length c1 A2 W.length c2 A3 F.length c3, .int .i64 a, .int .i64 b] w fun e w' => ∃ g c, e = .returned (.slice (some ⟨g, 0, none⟩) P.length c) ∧ OwnP w' w.heap.size (some ⟨g, 0, none⟩) c (ixL P W F a b) ∧ Below w.heap.size w w' := by
  have hok := hk.arm
  have hn1 := hok.tree.n1
  have hn9 := hok.n9
  have HWL := Lib.hid hok.tree.len
  obtain ⟨a2, rfl, _⟩ := h.r2.intN (k := 0) (by rw [HWL.out]; omega)
  have HB1 : Below w.heap.size w (w.alloc (.cells #[.slice A1 P.length c1, .slice (some a2) W.length c2, .slice A3 F.length c3] 28)) := (Below.refl _ _).alloc (Nat.le_refl _) _
  have bx := Bx3.new w (.slice A1 P.length c1) (.slice (some a2) W.length c2) (.slice A3 F.length c3) 28
  have HFL := Lib.hid hok.len
  have hfl : (F.length : Int) = (P.length : Int) := by rw [hok.len]
  go_enter Try.func62, Try.ntmps62
  go_wp2_with (at_make; refine wp_make_pairs _ (w.heap.size + 1) (by simp) rfl _ _ rfl _ _ _ _ P.length rfl rfl (by first | rfl | exact hfl) (by first | rfl | exact hfl) (by omega) ?_; intro w2 ho hb2)
  have R0 := PrR.mk (w := w) ho (bx.below hb2) (bUp HB1 hb2 HB1.size)
  rw [← ixD_start (W := W) (F := F) (a := a) (b := b)] at R0
  clear ho hb2 bx HB1 hfl
  have hk9 : P.length ≤ 16777216 := by omega
  go_loopw [8] (fun i wr => ∃ (k : Nat) (j : Int), k ≤ P.length ∧ j + 1 = (k : Int) ∧ i = .int .i64 j ∧ PrR w wr (w.heap.size + 1) P.length (ixD P W F a b k) (.slice A1 P.length c1) (.slice (some a2) W.length c2) (.slice A3 F.length c3)) (fun i _ => (intOf i + 1).toNat)
  case atStart => exact ⟨P.length, (P.length : Int) - 1, Nat.le_refl _, by omega, rfl, R0⟩
  case round =>
    clear R0
    obtain ⟨k, j, hkl, hj, rfl, R⟩ := hrel
    obtain ⟨wo, rfl⟩ : ∃ wo : World, wo = wr := ⟨_, rfl⟩
    rcases k with _ | x
    · obtain rfl : j = -1 := by omega
      rw [ixD_all] at R
      go_wp2
      go_ret
      exact ⟨_, _, rfl, R.o.mono (by omega), R.hb⟩
    · obtain rfl : j = (x : Int) := by omega
      clear hj
      have hx : x < P.length := by omega
      obtain ⟨f0, f1, f2, fz⟩ := id R.b
      have HDL := Lib.hid (ixD_len (P := P) (W := W) (F := F) (a := a) (b := b) (x + 1))
      obtain ⟨d0, d1⟩ := R.o.cells (k := x) (by rw [HDL.out]; exact hx)
      have z0 := R.o.frozen (x * 2)
      have z1 := R.o.frozen (x * 2 + 1)
      have R2 := R.set 0 1 (k := x) (by rw [HDL.out]; exact hx)
      obtain ⟨aq, eq, q2⟩ := (h.below R2.hb (Nat.le_refl _)).r2.intN (k := x) (by rw [HWL.out]; exact hx)
      injection eq with eq
      subst eq
      obtain ⟨e0, e1, e2, ez⟩ := id R2.b
      have i1 : (x : Int) < (W.length : Int) := by rw [HWL.out]; omega
      have i0 : (0 : Int) ≤ (x : Int) := by omega
      have i2 : (x : Int) < (P.length : Int) := by omega
      have i3 : x < W.length := by omega
      cases he : endB P x
      · have ew := neB_wt hok hx he
        have HS : Hid (((ixD P W F a b (x + 1)).set x (0, 1)).set x ((idxP P W F a b x).1, (idxP P W F a b x).2) = ixD P W F a b x) := Lib.hid (by rw [List.set_set]; exact ixD_step x)
        have HL2 := Lib.hid (show ((ixD P W F a b (x + 1)).set x (0, 1)).length = P.length by rw [List.length_set, HDL.out])
        have HPS : Hid (∀ z, x < z → z < P.length → endB P z = false → nP ((ixD P W F a b (x + 1)).set x (0, 1)) z = idxP P W F a b z) := Lib.hid fun z h1 h2 _ => by
          rw [nP_set_ne (by omega)]
          exact ixD_nP h2 h1
        have HE := Lib.hid he
        clear he
        go_wp2_with fail
        refine (l8Best_c A1 P c1 (some a2) W c2 A3 F c3 a b hk (w.heap.size + 1) P.length _ _ x _ (h.below R2.hb (Nat.le_refl _)) hx HE.out R2.o HL2.out HPS.out).mono ?_
        rintro e w3 ⟨rfl, b3⟩
        have R3 := R2.below b3
        clear R R2 b3 d0 d1 z0 z1 f0 f1 f2 fz e0 e1 e2 ez q2
        obtain ⟨d0, d1⟩ := R3.o.cells (k := x) (by rw [HL2.out]; exact hx)
        have z0 := R3.o.frozen (x * 2)
        have z1 := R3.o.frozen (x * 2 + 1)
        have R4 := R3.set (idxP P W F a b x).1 (idxP P W F a b x).2 (k := x) (by rw [HL2.out]; exact hx)
        rw [HS.out] at R4
        go_wp2
        go_roundw
        case rel => exact ⟨x, (x : Int) - 1, by omega, by omega, by go_num, R4⟩
        case measure => simp [intOf] <;> omega
      · have ew := neB_wt hok hx he
        have HS := Lib.hid (ixD_step (P := P) (W := W) (F := F) (a := a) (b := b) x)
        have HE := Lib.hid (idx_end (W := W) (F := F) (a := a) (b := b) he)
        clear he
        rw [show ((0 : Int), (1 : Int)) = idxP P W F a b x from HE.out.symm, HS.out] at R2
        go_wp2
        go_roundw
        case rel => exact ⟨x, (x : Int) - 1, by omega, by omega, by go_num, R2⟩
        case measure => simp [intOf] <;> omega
set_option maxRecDepth 20000 in
set_option maxHeartbeats 1000000 in
theorem specIx_c (A1 : Option Addr) (P : List Int) (c1 : Nat) (A2 : Option Addr) (W : List Int) (c2 : Nat) (A3 : Option Addr) (F : List Int) (c3 : Nat) (a b : Int) (w : World) (h : RdM w A1 P A2 W A3 F) :
    Calls Try.prog 10 #[mkV A1 P.length c1 A2 W.length c2 A3 F.length c3, .int .i64 a, .int .i64 b] w (GivesP w (ixV P W F a b) (ixB P W F a b)) := by
  have HB1 : Below w.heap.size w (w.alloc (.cells #[.slice A1 P.length c1, .slice A2 W.length c2, .slice A3 F.length c3] 28)) := (Below.refl _ _).alloc (Nat.le_refl _) _
  have bx := Bx3.new w (.slice A1 P.length c1) (.slice A2 W.length c2) (.slice A3 F.length c3) 28
  cases hq : (armB P W F && discB a b)
  · have HQ := Lib.hid (show ixB P W F a b = false from hq)
    rw [ixV_no HQ.out, HQ.out]
    go_enter Try.func10, Try.ntmps10
    go_wp2_with fail
    refine (l8One_is _ _ _ _ _ _ _ _ _ _ _ _ hq _ (h.below HB1 (Nat.le_refl _))).mono ?_
    rintro e w2 ⟨rfl, b2⟩
    have HB2 := bUp HB1 b2 HB1.size
    have O := (OwnP.lit0 w2).mono HB2.size
    go_wp2
    go_ret2
    exact ⟨_, _, rfl, O, HB2.alloc HB2.size _⟩
  · have hk := armAB_iff.1 hq
    have HQ := Lib.hid (show ixB P W F a b = true from hq)
    have HL := Lib.hid (ixL_len (P := P) (W := W) (F := F) (a := a) (b := b))
    rw [ixV_yes HQ.out, HQ.out]
    go_enter Try.func10, Try.ntmps10
    go_wp2_with fail
    refine (l8One_is _ _ _ _ _ _ _ _ _ _ _ _ hq _ (h.below HB1 (Nat.le_refl _))).mono ?_
    rintro e w2 ⟨rfl, b2⟩
    have HB2 := bUp HB1 b2 HB1.size
    obtain ⟨f0, f1, f2, fz⟩ := bx.below b2
    clear bx b2 HB1
    go_wp2_with fail
    refine (l8Index_c A1 P c1 A2 W c2 A3 F c3 a b hk _ (h.below HB2 (Nat.le_refl _))).mono ?_
    rintro e w3 ⟨g, c, rfl, o, b3⟩
    go_wp2
    go_ret2
    exact ⟨_, _, by rw [HL.out] <;> rfl, o.mono HB2.size, bUp HB2 b3 HB2.size⟩
set_option maxRecDepth 20000 in
set_option maxHeartbeats 1000000 in
theorem implIx_c (A1 : Option Addr) (P : List Int) (c1 : Nat) (A2 : Option Addr) (W : List Int) (c2 : Nat) (A3 : Option Addr) (F : List Int) (c3 : Nat) (a b : Int) (w : World) (h : RdM w A1 P A2 W A3 F) :
    Calls Try.prog 9 #[mkV A1 P.length c1 A2 W.length c2 A3 F.length c3, .int .i64 a, .int .i64 b] w (GivesP w (ixV P W F a b) (ixB P W F a b)) := by
  have HB1 : Below w.heap.size w (w.alloc (.cells #[.slice A1 P.length c1, .slice A2 W.length c2, .slice A3 F.length c3] 28)) := (Below.refl _ _).alloc (Nat.le_refl _) _
  have bx := Bx3.new w (.slice A1 P.length c1) (.slice A2 W.length c2) (.slice A3 F.length c3) 28
  cases ha : armB P W F
  · have HQ := Lib.hid (show ixB P W F a b = false by rw [ixB, ha]; rfl)
    rw [ixV_no HQ.out, HQ.out]
    go_enter Try.func9, Try.ntmps9
    go_wp2_with fail
    refine (implArm_is _ _ _ _ _ _ _ _ _ _ ha _ (h.below HB1 (Nat.le_refl _))).mono ?_
    rintro e w2 ⟨rfl, b2⟩
    go_wp2
    go_ret2
    exact ⟨none, 0, rfl, OwnP.nil _ _, bUp HB1 b2 HB1.size⟩
  cases hd : discB a b
  · have HQ := Lib.hid (show ixB P W F a b = false by rw [ixB, hd]; simp)
    rw [ixV_no HQ.out, HQ.out]
    go_enter Try.func9, Try.ntmps9
    go_wp2_with fail
    refine (implArm_is _ _ _ _ _ _ _ _ _ _ ha _ (h.below HB1 (Nat.le_refl _))).mono ?_
    rintro e w2 ⟨rfl, b2⟩
    go_wp2_with fail
    refine (isDiscount_is _ _ _ hd _).mono ?_
    rintro e w3 ⟨rfl, rfl⟩
    go_wp2
    go_ret2
    exact ⟨none, 0, rfl, OwnP.nil _ _, bUp HB1 b2 HB1.size⟩
  have hq : (armB P W F && discB a b) = true := by rw [ha, hd]; rfl
  have hk := armAB_iff.1 hq
  have HQ := Lib.hid (show ixB P W F a b = true from hq)
  have HFL := Lib.hid hk.arm.len
  have hn9 := hk.arm.n9
  rw [ixV_yes HQ.out, HQ.out]
  clear hq
  go_enter Try.func9, Try.ntmps9
  go_wp2_with fail
  refine (implArm_is _ _ _ _ _ _ _ _ _ _ ha _ (h.below HB1 (Nat.le_refl _))).mono ?_
  rintro e w2 ⟨rfl, b2⟩
  go_wp2_with fail
  refine (isDiscount_is _ _ _ hd _).mono ?_
  rintro e w3 ⟨rfl, rfl⟩
  have bx2 := bx.below b2
  have sz2 : w.heap.size + 1 ≤ w2.heap.size := bx2.2.2.2
  have HB2 := bUp HB1 b2 HB1.size
  have O0 := Lib.hid (OwnP.lit0 w2)
  have HB3 := HB2.alloc HB2.size (.cells #[] 31)
  have bx3 := bx2.alloc (.cells #[] 31)
  obtain ⟨f0, f1, f2, fz⟩ := id bx2
  clear bx b2 HB1 bx2
  go_wp2
  clear f0 f1 f2 fz
  go_loopw [8, 23] (fun t i wr => ∃ (k : Nat) (A : Option Addr) (c : Nat), k ≤ P.length ∧ i = .int .i64 (k : Int) ∧ t = .slice A k c ∧ OwnP wr (w.heap.size + 1) A c (ixU P W F a b k) ∧ Bx3 wr w.heap.size (.slice A1 P.length c1) (.slice A2 W.length c2) (.slice A3 F.length c3) ∧ Below w.heap.size w wr) (fun _ i _ => P.length - (intOf i).toNat)
  case atStart => exact ⟨0, _, _, Nat.zero_le _, rfl, rfl, O0.out.mono sz2, bx3, HB3⟩
  case round =>
    clear O0 HB3 bx3
    obtain ⟨k, A, c, hkl, rfl, rfl, o, bx, HB⟩ := hrel
    obtain ⟨wo, rfl⟩ : ∃ wo : World, wo = wr := ⟨_, rfl⟩
    obtain ⟨f0, f1, f2, fz⟩ := id bx
    have HUL := Lib.hid (ixU_len (P := P) (W := W) (F := F) (a := a) (b := b) k)
    by_cases hlt : k < P.length
    · have hltF : k < F.length := by have := HFL.out; omega
      have HS := Lib.hid (ixU_succ (P := P) (W := W) (F := F) (a := a) (b := b) k)
      go_wp2_with fail
      refine (index_c A1 P c1 A2 W c2 A3 F c3 a b k _ (h.below HB (Nat.le_refl _)) hk hlt).mono ?_
      rintro e w4 ⟨rfl, b4⟩
      have o4 := o.below b4
      have bx4 := bx.below b4
      have HB4 := bUp HB b4 HB.size
      clear o bx HB f0 f1 f2 fz b4
      have src : ∀ j u, (pcells [idxP P W F a b k])[j]? = some u → (w4.alloc (.cells #[.int .i64 (idxP P W F a b k).1, .int .i64 (idxP P W F a b k).2] 31)).cell? ((⟨w4.heap.size, 0, none⟩ : Addr).add j) = some u := by
        have := (OwnP.lit w4 [idxP P W F a b k] (by simp)).src
        simpa [pcells] using this
      have SRC := Lib.hid src
      clear src
      have szw : w.heap.size + 1 ≤ w4.heap.size := bx4.2.2.2
      have o5 := o4.alloc (.cells #[.int .i64 (idxP P W F a b k).1, .int .i64 (idxP P W F a b k).2] 31)
      have bx5 := bx4.alloc (.cells #[.int .i64 (idxP P W F a b k).1, .int .i64 (idxP P W F a b k).2] 31)
      have HB5 := HB4.alloc HB4.size (.cells #[.int .i64 (idxP P W F a b k).1, .int .i64 (idxP P W F a b k).2] 31)
      go_wp2_with (at_builtin; refine wp_append_pairs _ rfl _ _ rfl (w.heap.size + 1) A k c (ixU P W F a b k) rfl HUL.out.symm o5 ⟨w4.heap.size, 0, none⟩ 1 1 [idxP P W F a b k] rfl rfl SRC.out (by have := HUL.out; simp; omega) (by simp; omega) (by simp) ?_; intro g2 c2 w6 o6 hg6 hb6)
      have bx6 := bx5.grownR hg6 (fun e => by have := o5.ge _ e; omega)
      have HB6 := HB5.grown hg6 HB5.size (fun j hj => by have := o5.ge j hj; omega)
      go_roundw
      case rel => exact ⟨k + 1, some ⟨g2, 0, none⟩, c2, by omega, by go_num, rfl, by rw [HS.out]; exact o6, bx6, HB6⟩
      case measure => simp [intOf] <;> omega
    · obtain rfl : k = P.length := by omega
      have hltF : ¬ P.length < F.length := by have := HFL.out; omega
      rw [ixU_all] at o
      go_wp2
      go_ret2
      exact ⟨_, _, by rw [ixL_len] <;> rfl, o.mono (by omega), HB⟩


end Go.Proofs.Ytfobjkdkjlbkfaa
