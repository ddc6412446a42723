/- PlayGain: the plain side; the program's walk. (Written by gen_pgw.py.) -/
import Derived.Test.YtdhagkckkdaenaaPaW
import Derived.Test.YtdhagkckkdaenaaEq
namespace Go.Proofs.Ytdhagkckkdaenaa
open Go.RowKit

section
variable {P W F : List Int} {a b : Int} {S : List Int}
/-- Whether a set can be played from the root on. -/
def pgB (P W F : List Int) (a b : Int) (S : List Int) : Bool := (armB P W F && discB a b) && decide (S ∈ sts P 0)
/-- The scale: the sum of all, times b to the greatest power. -/
def pgD (P W : List Int) (b : Int) : Int := nth (gath P W) 0 * pw b 4
def pgF (P W F : List Int) (a b : Int) (S : List Int) : Int × Int := if pgB P W F a b S then (cutT (gnA P W F a b 0 S) (pgD P W b), cutB (gnA P W F a b 0 S) (pgD P W b)) else (0, 0)
def pgG (P W F : List Int) (a b : Int) (S : List Int) : Int × Int := if pgB P W F a b S then (cutT (tmA P W a b 0 S) (pgD P W b), cutB (tmA P W a b 0 S) (pgD P W b)) else (0, 0)
theorem pg_no (h : pgB P W F a b S = false) : pgF P W F a b S = (0, 0) ∧ pgG P W F a b S = (0, 0) := by
  unfold pgF pgG
  rw [h]
  exact ⟨rfl, rfl⟩
theorem pg_yes (h : pgB P W F a b S = true) : pgF P W F a b S = (cutT (gnA P W F a b 0 S) (pgD P W b), cutB (gnA P W F a b 0 S) (pgD P W b)) ∧ pgG P W F a b S = (cutT (tmA P W a b 0 S) (pgD P W b), cutB (tmA P W a b 0 S) (pgD P W b)) := by
  unfold pgF pgG
  rw [h]
  exact ⟨rfl, rfl⟩
theorem pgD_bd (h : ArmAB P W F a b) : 1 ≤ pgD P W b ∧ pgD P W b ≤ 46080 := by
  have h1 := gath_pos h.arm.tree (x := 0) (by have := h.arm.tree.n1; omega)
  have h2 := h.arm.sum180 0
  have h3 := pw_four h.b0 h.b4 (k := 4) (Nat.le_refl _)
  have h4 := pw_pos1 (b := b) (by have := h.a1; have := h.ab; omega) 4
  have h5 := mul_bd (nth (gath P W) 0) (pw b 4) 180 256 (by omega) h2.2 h3.1 h3.2
  have h6 := Int.mul_le_mul h1 h4 (by decide) (by omega)
  unfold pgD
  omega
theorem lw_ok {T B : Int} (hB : 0 < B) (hB2 : B ≤ 1000000) (hT : -1000000000 ≤ T) (hT2 : T ≤ 1000000000) : lwOk T B = true ∧ lwT T B = cutT T B ∧ lwB T B = cutB T B := by
  have h1 := cutT_bd (a := T) hB hT hT2
  have h2 := cutB_le (a := T) hB
  have h3 : lwOk T B = true := by
    rw [lwOk_eq hB, inB_iff.2 h1, decide_eq_true (by omega)]
    rfl
  refine ⟨h3, ?_⟩
  unfold lwOk at h3
  unfold lwT lwB kpT kpB
  rw [h3]
  exact ⟨rfl, rfl⟩
/-- The pair by the reference's scale. -/
theorem pg_ref (h : ArmAB P W F a b) (i : Nat → Bool) :
    (cutT (gnA P W F a b 0 (rL P i 0 P.length)) (pgD P W b), cutB (gnA P W F a b 0 (rL P i 0 P.length)) (pgD P W b)) = (cutT (gnR P W F a b i 0) (unitX P W b 0), cutB (gnR P W F a b i 0) (unitX P W b 0)) ∧
    (cutT (tmA P W a b 0 (rL P i 0 P.length)) (pgD P W b), cutB (tmA P W a b 0 (rL P i 0 P.length)) (pgD P W b)) = (cutT (tmR P W a b i 0) (unitX P W b 0), cutB (tmR P W a b i 0) (unitX P W b 0)) := by
  have hn : 0 < P.length := by have := h.arm.tree.n1; omega
  have hu := unitX_pos h.arm (b := b) (by have := h.a1; have := h.ab; omega) hn
  have hd := dpN_le h.arm hn
  have e : pgD P W b = kP P b 0 * unitX P W b 0 := by
    rw [unitX_eq h.arm hn, pgD, kP, dpN_zero, show (4 : Nat) = (4 - hN P + 0) + (hN P - 0) by omega, pw_add]
    simp only [Nat.add_zero, Nat.sub_zero]
    rw [show 4 - hN P + hN P - hN P = 4 - hN P by omega]
    grind
  have hp := (pgD_bd h).1
  constructor
  · have := cut_congr (a := gnA P W F a b 0 (rL P i 0 P.length)) (b := pgD P W b) (c := gnR P W F a b i 0) (d := unitX P W b 0) (by omega) (by omega) (by rw [gnA_eq h.arm hn, e]; grind)
    exact Prod.ext this.1 this.2
  · have := cut_congr (a := tmA P W a b 0 (rL P i 0 P.length)) (b := pgD P W b) (c := tmR P W a b i 0) (d := unitX P W b 0) (by omega) (by omega) (by rw [tmA_eq h.arm hn, e]; grind)
    exact Prod.ext this.1 this.2
end
theorem lAt_get {L : List (List Int)} {k : Nat} (h : k < L.length) : lAt L k = L[k] := by simp [lAt, List.getD_eq_getElem?_getD, h]
set_option maxRecDepth 20000 in
theorem pgClos_c (g7 : Nat) (A : Option Addr) (S : List Int) (cS : Nat) (A' : Option Addr) (s : List Int) (c' : Nat) (w : World) (h7 : w.cell? ⟨g7, 0, none⟩ = some (.slice A S.length cS)) (hS : Rd w A (ints S)) (hs : Rd w A' (ints s)) (hl : s.length ≤ 1000) (hl2 : S.length ≤ 16777216) :
    Calls Try.prog 37 #[.slice A' s.length c', .pointer (some ⟨g7, 0, none⟩)] w (Pure w (.bool (decide (s = S)))) := by
  go_enter Try.func37, Try.ntmps37
  go_wp2_with fail
  refine (slEqual_c A' A s S _ _ _ _ _ rfl rfl hs hS (by omega) hl2).mono ?_
  rintro e w2 ⟨rfl, hd⟩
  go_wp2
  go_ret
  exact ⟨rfl, hd⟩
set_option maxRecDepth 20000 in
set_option maxHeartbeats 1000000 in
theorem slIndexFn_c (g7 : Nat) (A : Option Addr) (S : List Int) (cS B : Nat) (AL : Option Addr) (cL : Nat) (L : List (List Int)) (w : World) (hR : RowsAt w B AL L) (h7 : w.cell? ⟨g7, 0, none⟩ = some (.slice A S.length cS)) (hS : Rd w A (ints S)) (hl : L.length ≤ 1000) (hl1 : ∀ k, k < L.length → (lAt L k).length ≤ 1000) (hl2 : S.length ≤ 16777216) :
    Calls Try.prog 68 #[.slice AL L.length cL, .func (.func 37) #[] #[.pointer (some ⟨g7, 0, none⟩)]] w fun e w' => (∃ v : Int, e = .returned (.int .i64 v) ∧ -1 ≤ v ∧ v ≤ 1000 ∧ decide (S ∈ L) = decide (0 ≤ v)) ∧ Dr w w' := by
  have HL1 := Lib.hid hl1
  clear hl1
  go_enter Try.func68, Try.ntmps68
  go_wp2
  go_loopw [8] (fun i wr => ∃ k : Nat, k ≤ L.length ∧ i = .int .i64 (k : Int) ∧ (∀ j, j < k → lAt L j ≠ S) ∧ Dr w wr) (fun i _ => L.length - (intOf i).toNat)
  case atStart => exact ⟨0, Nat.zero_le _, rfl, fun j hj => by omega, Dr.refl _⟩
  case round =>
    obtain ⟨k, hk, rfl, hall, hd⟩ := hrel
    obtain ⟨wo, rfl⟩ : ∃ wo : World, wo = wr := ⟨_, rfl⟩
    have HA := Lib.hid hall
    clear hall
    by_cases hlt : k < L.length
    · obtain ⟨g, a, c, rfl, hc, hr, _, _⟩ := hR k hlt
      have hc' : wo.cell? ⟨g, k, none⟩ = some (.slice (some a) (lAt L k).length c) := by obtain ⟨n, rfl⟩ := hd; exact hc
      have h7' : wo.cell? ⟨g7, 0, none⟩ = some (.slice A S.length cS) := by obtain ⟨n, rfl⟩ := hd; exact h7
      cases hq : decide (lAt L k = S)
      · have HQ := Lib.hid hq
        go_wp2_with fail
        refine (pgClos_c g7 A S cS (some a) (lAt L k) c _ h7' (hS.dr hd) (hr.dr hd) (HL1.out k hlt) hl2).mono ?_
        rintro e w2 ⟨rfl, hd2⟩
        rw [HQ.out]
        clear hq
        go_wp2
        go_roundw
        case rel => exact ⟨k + 1, by omega, by go_num, fun j hj => by
          rcases Nat.lt_or_ge j k with h | h
          · exact HA.out j h
          · rw [show j = k by omega]; exact of_decide_eq_false HQ.out, hd.trans hd2⟩
        case measure => simp [intOf] <;> omega
      · have HQ := Lib.hid hq
        have HE : Hid (decide (S ∈ L) = true) := Lib.hid (decide_eq_true (by rw [← of_decide_eq_true hq]; exact lAt_mem hlt))
        go_wp2_with fail
        refine (pgClos_c g7 A S cS (some a) (lAt L k) c _ h7' (hS.dr hd) (hr.dr hd) (HL1.out k hlt) hl2).mono ?_
        rintro e w2 ⟨rfl, hd2⟩
        rw [HQ.out]
        clear hq
        go_wp2
        go_ret
        exact ⟨⟨_, rfl, by omega, by omega, by rw [HE.out, decide_eq_true (by omega)]⟩, hd.trans hd2⟩
    · have HE : Hid (decide (S ∈ L) = false) := Lib.hid (decide_eq_false fun h => by
        obtain ⟨j, hj, e⟩ := List.mem_iff_getElem.1 h
        exact HA.out j (by omega) (by rw [lAt_get hj]; exact e))
      go_wp2
      go_ret
      exact ⟨⟨_, rfl, by omega, by omega, by rw [HE.out, decide_eq_false (by omega)]⟩, hd⟩
set_option maxRecDepth 20000 in
theorem slContainsFn_is (g7 : Nat) (A : Option Addr) (S : List Int) (cS B : Nat) (AL : Option Addr) (cL : Nat) (L : List (List Int)) (q : Bool) (hq : decide (S ∈ L) = q) (w : World) (hR : RowsAt w B AL L) (h7 : w.cell? ⟨g7, 0, none⟩ = some (.slice A S.length cS)) (hS : Rd w A (ints S)) (hl : L.length ≤ 1000) (hl1 : ∀ k, k < L.length → (lAt L k).length ≤ 1000) (hl2 : S.length ≤ 16777216) :
    Calls Try.prog 35 #[.slice AL L.length cL, .func (.func 37) #[] #[.pointer (some ⟨g7, 0, none⟩)]] w (Pure w (.bool q)) := by
  have HL1 := Lib.hid hl1
  clear hl1
  go_enter Try.func35, Try.ntmps35
  go_wp2_with fail
  refine (slIndexFn_c g7 A S cS B AL cL L _ hR h7 hS hl HL1.out hl2).mono ?_
  rintro e w2 ⟨⟨v, rfl, h1, h2, h3⟩, hd⟩
  rw [hq] at h3
  have H3 := Lib.hid h3
  clear h3
  go_wp2
  go_ret
  exact ⟨by rw [H3.out] <;> rfl, hd⟩
theorem sts_idx {P : List Int} {S : List Int} (h : S ∈ sts P 0) : ∃ k, k < (sts P 0).length ∧ lAt (sts P 0) k = S := by
  obtain ⟨k, hk, e⟩ := List.mem_iff_getElem.1 h
  exact ⟨k, hk, by rw [lAt_get hk]; exact e⟩
set_option maxRecDepth 20000 in
set_option maxHeartbeats 2000000 in
theorem implPg_c (A1 : Option Addr) (P : List Int) (c1 : Nat) (A2 : Option Addr) (W : List Int) (c2 : Nat) (A3 : Option Addr) (F : List Int) (c3 : Nat) (a b : Int) (AS : Option Addr) (S : List Int) (cS : Nat) (w : World) (h : RdM w A1 P A2 W A3 F) (hS : Rd w AS (ints S)) (hSl : S.length ≤ 16777216) :
    Calls Try.prog 11 #[mkV A1 P.length c1 A2 W.length c2 A3 F.length c3, .int .i64 a, .int .i64 b, .slice AS S.length cS] w (Quietly w (.tuple #[.agg #[.int .i64 (pgF P W F a b S).1, .int .i64 (pgF P W F a b S).2], .agg #[.int .i64 (pgG P W F a b S).1, .int .i64 (pgG P W F a b S).2], .bool (pgB P W F a b S)])) := by
  have hmf : ∀ (fn : Fn) (first cap : Array Value) (w : World), (Instr.makeFunc fn first cap).run Try.prog w = .ok (.func fn first cap) w := fun _ _ _ _ => rfl
  have HB1 : Below w.heap.size w ((((w.alloc (.cells #[.slice A1 P.length c1, .slice A2 W.length c2, .slice A3 F.length c3] 33)).alloc (.cells #[.slice AS S.length cS] 22)).alloc (.cells #[.int .i64 0, .int .i64 0] 28)).alloc (.cells #[.int .i64 0, .int .i64 0] 28)) := ((((Below.refl _ _).alloc (Nat.le_refl _) _).alloc (by simp) _).alloc (by simp <;> omega) _).alloc (by simp <;> omega) _
  have bx := (((Bx3.new w (.slice A1 P.length c1) (.slice A2 W.length c2) (.slice A3 F.length c3) 33).alloc (.cells #[.slice AS S.length cS] 22)).alloc (.cells #[.int .i64 0, .int .i64 0] 28)).alloc (.cells #[.int .i64 0, .int .i64 0] 28)
  have b7 : ((((w.alloc (.cells #[.slice A1 P.length c1, .slice A2 W.length c2, .slice A3 F.length c3] 33)).alloc (.cells #[.slice AS S.length cS] 22)).alloc (.cells #[.int .i64 0, .int .i64 0] 28)).alloc (.cells #[.int .i64 0, .int .i64 0] 28)).cell? ⟨w.heap.size + 1, 0, none⟩ = some (.slice AS S.length cS) := by
    rw [World.cell?_alloc_past _ _ _ (by simp), World.cell?_alloc_past _ _ _ (by simp), World.cell?_alloc_at _ _ _ _ (by simp)]
    rfl
  have r8 := (Bx.new ((w.alloc (.cells #[.slice A1 P.length c1, .slice A2 W.length c2, .slice A3 F.length c3] 33)).alloc (.cells #[.slice AS S.length cS] 22)) (.int .i64 0) (.int .i64 0) 28).alloc (.cells #[.int .i64 0, .int .i64 0] 28)
  have r9 := Bx.new (((w.alloc (.cells #[.slice A1 P.length c1, .slice A2 W.length c2, .slice A3 F.length c3] 33)).alloc (.cells #[.slice AS S.length cS] 22)).alloc (.cells #[.int .i64 0, .int .i64 0] 28)) (.int .i64 0) (.int .i64 0) 28
  simp only [World.size_alloc] at r8 r9
  have z7 : w.heap.size + 1 < ((((w.alloc (.cells #[.slice A1 P.length c1, .slice A2 W.length c2, .slice A3 F.length c3] 33)).alloc (.cells #[.slice AS S.length cS] 22)).alloc (.cells #[.int .i64 0, .int .i64 0] 28)).alloc (.cells #[.int .i64 0, .int .i64 0] 28)).heap.size := by simp
  cases ha : armB P W F
  · have HQ := Lib.hid (show pgB P W F a b S = false by rw [pgB, ha]; rfl)
    rw [(pg_no HQ.out).1, (pg_no HQ.out).2, HQ.out]
    go_enter Try.func11, Try.ntmps11
    go_wp2_with fail
    generalize ((((w.alloc (.cells #[.slice A1 P.length c1, .slice A2 W.length c2, .slice A3 F.length c3] 33)).alloc (.cells #[.slice AS S.length cS] 22)).alloc (.cells #[.int .i64 0, .int .i64 0] 28)).alloc (.cells #[.int .i64 0, .int .i64 0] 28)) = v at *
    refine (implArm_is _ _ _ _ _ _ _ _ _ _ ha _ (h.below HB1 (Nat.le_refl _))).mono ?_
    rintro e w2 ⟨rfl, b2⟩
    obtain ⟨u0, u1, u2, u3, u4⟩ := r8.below b2
    obtain ⟨t0, t1, t2, t3, t4⟩ := r9.below b2
    have HB2 := bUp HB1 b2 HB1.size
    go_wp2
    exact bodyPost_ret (v := .tuple #[.agg #[.int .i64 0, .int .i64 0], .agg #[.int .i64 0, .int .i64 0], .bool false]) (by simp [results, Try.results11, go_sem, u0, u1, t0, t1]) rfl ⟨rfl, by with_reducible repeat (first | exact HB2 | refine Below.setCell ?_ (by simp <;> omega) _)⟩
  cases hd : discB a b
  · have HQ := Lib.hid (show pgB P W F a b S = false by rw [pgB, hd]; simp)
    rw [(pg_no HQ.out).1, (pg_no HQ.out).2, HQ.out]
    go_enter Try.func11, Try.ntmps11
    go_wp2_with fail
    generalize ((((w.alloc (.cells #[.slice A1 P.length c1, .slice A2 W.length c2, .slice A3 F.length c3] 33)).alloc (.cells #[.slice AS S.length cS] 22)).alloc (.cells #[.int .i64 0, .int .i64 0] 28)).alloc (.cells #[.int .i64 0, .int .i64 0] 28)) = v at *
    refine (implArm_is _ _ _ _ _ _ _ _ _ _ ha _ (h.below HB1 (Nat.le_refl _))).mono ?_
    rintro e w2 ⟨rfl, b2⟩
    go_wp2_with fail
    refine (isDiscount_is _ _ _ hd _).mono ?_
    rintro e w3 ⟨rfl, rfl⟩
    obtain ⟨u0, u1, u2, u3, u4⟩ := r8.below b2
    obtain ⟨t0, t1, t2, t3, t4⟩ := r9.below b2
    have HB2 := bUp HB1 b2 HB1.size
    go_wp2
    exact bodyPost_ret (v := .tuple #[.agg #[.int .i64 0, .int .i64 0], .agg #[.int .i64 0, .int .i64 0], .bool false]) (by simp [results, Try.results11, go_sem, u0, u1, t0, t1]) rfl ⟨rfl, by with_reducible repeat (first | exact HB2 | refine Below.setCell ?_ (by simp <;> omega) _)⟩
  have hq : (armB P W F && discB a b) = true := by rw [ha, hd]; rfl
  have hk := armAB_iff.1 hq
  have hok := hk.arm
  have hn1 := hok.tree.n1
  have hn2 := hok.tree.n2
  have hn9 := hok.n9
  have HFL := Lib.hid hok.len
  have hx0 : 0 < P.length := by omega
  have hsl := sts_len hn9 0
  have HR1 : Hid (∀ k, k < (sts P 0).length → (lAt (sts P 0) k).length ≤ 1000) := Lib.hid fun k hk' => by have := sts_row hn9 hk'; omega
  cases hm : decide (S ∈ sts P 0)
  · have HQ := Lib.hid (show pgB P W F a b S = false by rw [pgB, hq, hm]; rfl)
    rw [(pg_no HQ.out).1, (pg_no HQ.out).2, HQ.out]
    clear hq
    go_enter Try.func11, Try.ntmps11
    go_wp2_with fail
    generalize ((((w.alloc (.cells #[.slice A1 P.length c1, .slice A2 W.length c2, .slice A3 F.length c3] 33)).alloc (.cells #[.slice AS S.length cS] 22)).alloc (.cells #[.int .i64 0, .int .i64 0] 28)).alloc (.cells #[.int .i64 0, .int .i64 0] 28)) = v at *
    refine (implArm_is _ _ _ _ _ _ _ _ _ _ ha _ (h.below HB1 (Nat.le_refl _))).mono ?_
    rintro e w2 ⟨rfl, b2⟩
    go_wp2_with fail
    refine (isDiscount_is _ _ _ hd _).mono ?_
    rintro e w3 ⟨rfl, rfl⟩
    have bx2 := bx.below b2
    have r82 := r8.below b2
    have r92 := r9.below b2
    have b72 := (b2.cell (p := ⟨w.heap.size + 1, 0, none⟩) z7).trans b7
    have HB2 := bUp HB1 b2 HB1.size
    have z72 := Nat.lt_of_lt_of_le z7 b2.size
    clear bx r8 r9 b7 HB1 z7 b2
    obtain ⟨f0, f1, f2, fz⟩ := id bx2
    go_wp2_with fail
    refine (sets_c A1 P c1 A2 W c2 A3 F c3 0 _ (h.below HB2 (Nat.le_refl _)) hok.tree.par HFL.out hn9 hx0).mono ?_
    rintro e w4 ⟨AL, cL, rfl, hR, b4⟩
    have bx3 := bx2.below b4
    have r83 := r82.below b4
    have r93 := r92.below b4
    have b73 := (b4.cell (p := ⟨w.heap.size + 1, 0, none⟩) z72).trans b72
    have HB3 := bUp HB2 b4 HB2.size
    clear bx2 r82 r92 b72 HB2 b4 f0 f1 f2 fz z72
    obtain ⟨f0, f1, f2, fz⟩ := id bx3
    go_wp2_with fail
    refine (slContainsFn_is (w.heap.size + 1) AS S cS _ AL cL (sts P 0) false hm _ hR b73 (hS.below HB3 (Nat.le_refl _)) (by omega) HR1.out hSl).mono ?_
    rintro e w5 ⟨rfl, n5, rfl⟩
    obtain ⟨u0, u1, u2, u3, u4⟩ := r83.drewN n5
    obtain ⟨t0, t1, t2, t3, t4⟩ := r93.drewN n5
    have HB5 := bDrewN HB3 n5
    go_wp2
    exact bodyPost_ret (v := .tuple #[.agg #[.int .i64 0, .int .i64 0], .agg #[.int .i64 0, .int .i64 0], .bool false]) (by simp [results, Try.results11, go_sem, u0, u1, t0, t1]) rfl ⟨rfl, by with_reducible repeat (first | exact HB5 | refine Below.setCell ?_ (by simp <;> omega) _)⟩
  · have HQ := Lib.hid (show pgB P W F a b S = true by rw [pgB, hq, hm]; rfl)
    rw [(pg_yes HQ.out).1, (pg_yes HQ.out).2, HQ.out]
    obtain ⟨kS, hkS, ekS⟩ := sts_idx (of_decide_eq_true hm)
    obtain ⟨hkn, hn9S, _, htp, hgb, htb⟩ := sts_known hk hx0 hkS
    rw [ekS] at hkn hn9S htp hgb htb
    have HKN := Lib.hid hkn
    have pd := pgD_bd hk
    have HL1 := Lib.hid (lw_ok (T := gnA P W F a b 0 S) (B := pgD P W b) (by omega) (by omega) (by omega) (by omega))
    have HL2 := Lib.hid (lw_ok (T := tmA P W a b 0 S) (B := pgD P W b) (by omega) (by omega) (by omega) (by omega))
    clear hq hkn hkS ekS
    go_enter Try.func11, Try.ntmps11
    go_wp2_with fail
    generalize ((((w.alloc (.cells #[.slice A1 P.length c1, .slice A2 W.length c2, .slice A3 F.length c3] 33)).alloc (.cells #[.slice AS S.length cS] 22)).alloc (.cells #[.int .i64 0, .int .i64 0] 28)).alloc (.cells #[.int .i64 0, .int .i64 0] 28)) = v at *
    refine (implArm_is _ _ _ _ _ _ _ _ _ _ ha _ (h.below HB1 (Nat.le_refl _))).mono ?_
    rintro e w2 ⟨rfl, b2⟩
    go_wp2_with fail
    refine (isDiscount_is _ _ _ hd _).mono ?_
    rintro e w3 ⟨rfl, rfl⟩
    have bx2 := bx.below b2
    have r82 := r8.below b2
    have r92 := r9.below b2
    have b72 := (b2.cell (p := ⟨w.heap.size + 1, 0, none⟩) z7).trans b7
    have HB2 := bUp HB1 b2 HB1.size
    have z72 := Nat.lt_of_lt_of_le z7 b2.size
    clear bx r8 r9 b7 HB1 z7 b2
    obtain ⟨f0, f1, f2, fz⟩ := id bx2
    go_wp2_with fail
    refine (sets_c A1 P c1 A2 W c2 A3 F c3 0 _ (h.below HB2 (Nat.le_refl _)) hok.tree.par HFL.out hn9 hx0).mono ?_
    rintro e w4 ⟨AL, cL, rfl, hR, b4⟩
    have bx3 := bx2.below b4
    have r83 := r82.below b4
    have r93 := r92.below b4
    have b73 := (b4.cell (p := ⟨w.heap.size + 1, 0, none⟩) z72).trans b72
    have HB3 := bUp HB2 b4 HB2.size
    clear bx2 r82 r92 b72 HB2 b4 f0 f1 f2 fz z72
    obtain ⟨f0, f1, f2, fz⟩ := id bx3
    go_wp2_with fail
    refine (slContainsFn_is (w.heap.size + 1) AS S cS _ AL cL (sts P 0) true hm _ hR b73 (hS.below HB3 (Nat.le_refl _)) (by omega) HR1.out hSl).mono ?_
    rintro e w5 ⟨rfl, n5, rfl⟩
    have bx5 := bx3.drewN n5
    have r85 := r83.drewN n5
    have r95 := r93.drewN n5
    have HB5 := bDrewN HB3 n5
    have b75 : (w4.drewN n5).cell? ⟨w.heap.size + 1, 0, none⟩ = some (.slice AS S.length cS) := b73
    generalize w4.drewN n5 = w5 at *
    clear bx3 r83 r93 b73 HB3 hR f0 f1 f2
    obtain ⟨f0, f1, f2, fz⟩ := id bx5
    go_wp2_with fail
    refine (played_c A1 P c1 A2 W c2 A3 F c3 a b 0 AS S cS _ (h.below HB5 (Nat.le_refl _)) hk hx0 (hS.below HB5 (Nat.le_refl _)) hn9S HKN.out).mono ?_
    rintro e w6 ⟨rfl, b6⟩
    have bx6 := bx5.below b6
    have r86 := r85.below b6
    have r96 := r95.below b6
    have HB6 := bUp HB5 b6 HB5.size
    clear bx5 r85 r95 HB5 b75 f0 f1 f2 b6
    have hb0 := hk.b0
    have hb4 := hk.b4
    have s1 := hok.sum180 0
    have p1 := pw_four hb0 hb4 (k := 4) (Nat.le_refl _)
    have HPD : Hid (nth (gath P W) 0 * pw b 4 = pgD P W b) := Lib.hid rfl
    have e1 : IntKind.i64.wrap (nth (gath P W) 0 * pw b 4) = nth (gath P W) 0 * pw b 4 := by rw [HPD.out]; exact IntWalk.i64_in _ (by omega)
    have HP4 : Hid (pw b (4 : Int).toNat = pw b 4) := Lib.hid rfl
    go_upto_region 4 with fail
    obtain ⟨f0, f1, f2, fz⟩ := id bx6
    have h' := h.below (Below.drew HB6) (Nat.le_refl _)
    have hd1 : Below w6.heap.size w6 w6.drew := Below.drew (Below.refl _ _)
    have SK1 : Hid (∀ w', Below w6.heap.size w6 w' → w'.cell? ⟨w.heap.size, 0, none⟩ = some (.slice A1 P.length c1) ∧ w'.cell? ⟨w.heap.size, 1, none⟩ = some (.slice A2 W.length c2)) := Lib.hid fun w' HV => ⟨(HV.cell (p := ⟨w.heap.size, 0, none⟩) fz).trans f0, (HV.cell (p := ⟨w.heap.size, 1, none⟩) fz).trans f1⟩
    clear f0 f1 f2
    have hS1_0 := SK1.out _ hd1
    refine tamed_region (S := fun w' => w'.cell? ⟨w.heap.size, 0, none⟩ = some (.slice A1 P.length c1) ∧ w'.cell? ⟨w.heap.size, 1, none⟩ = some (.slice A2 W.length c2)) (fun _ => false) (by kernel_rfl) ?_
    refine tame0 (k := 0) ?_ rfl (by kernel_rfl) (by kernel_rfl) (by kernel_rfl) (fun _ _ _ h => h) (by kernel_rfl) (fun v => ?_) ?_
    rotate_left
    · (go_simp; all_goals rfl)
    simp only [Act.put, List.setIfInBounds_toArray]
    refine tame (k := 1) ?_ rfl (by kernel_rfl) (by kernel_rfl) (by kernel_rfl) (by kernel_rfl) (fun _ _ _ h => h) (by kernel_rfl) hS1_0 (fun v hv => ?_) ?_
    rotate_left
    · (obtain ⟨k1, k2⟩ := hv; go_simp; all_goals rfl)
    simp only [Act.put]
    refine tame0 (k := 5) ?_ rfl (by kernel_rfl) (by kernel_rfl) (by kernel_rfl) (fun _ _ _ h => h) (by kernel_rfl) (fun v => ?_) ?_
    rotate_left
    · (go_simp; all_goals rfl)
    simp only [Act.put]
    refine tame_one (k := 2) (by kernel_rfl) rfl (by kernel_rfl) ?_
    go_simp
    refine (sums_c A1 P c1 A2 W c2 _ h'.r1 h'.r2 hok.tree hn1 hn2).mono ?_
    rintro e w7 ⟨As, cs, rfl, os, b7⟩
    have hd1_1 := bUp hd1 b7 (Nat.le_refl _)
    have hS1_1 := Lib.hid (SK1.out _ hd1_1)
    refine ⟨by first | exact hS1_1 | exact Hid.out hS1_1, ?_⟩
    have HSL := Lib.hid (show (gath P W).length = P.length by rw [gath_length, hok.tree.len])
    obtain ⟨gs, rfl, hgs, hgs2⟩ := os.form (by rw [HSL.out]; omega)
    have qs := os.cellN (k := 0) (by rw [HSL.out]; exact hx0)
    have SK1m : Hid (∀ w', Below w7.heap.size w7 w' → (w'.cell? ⟨w.heap.size, 0, none⟩ = some (.slice A1 P.length c1) ∧ w'.cell? ⟨w.heap.size, 1, none⟩ = some (.slice A2 W.length c2)) ∧ w'.cell? ⟨gs, 0, none⟩ = some (.int .i64 (nth (gath P W) 0))) := Lib.hid fun w' HV => ⟨SK1.out _ (bUp hd1_1 HV hd1_1.size), (HV.cell (p := ⟨gs, 0, none⟩) hgs2).trans qs⟩
    clear qs
    have hm1_1 : Below w7.heap.size w7 w7 := Below.refl _ _
    have hS1_1m := SK1m.out _ hm1_1
    refine Tamed.more (S2 := fun w' => (w'.cell? ⟨w.heap.size, 0, none⟩ = some (.slice A1 P.length c1) ∧ w'.cell? ⟨w.heap.size, 1, none⟩ = some (.slice A2 W.length c2)) ∧ w'.cell? ⟨gs, 0, none⟩ = some (.int .i64 (nth (gath P W) 0))) (fun _ => rfl) (fun _ h => h.1) _ _ _ _ hS1_1m ?_
    refine tame0 (k := 3) ?_ rfl (by kernel_rfl) (by kernel_rfl) (by kernel_rfl) (fun _ _ _ h => h) (by kernel_rfl) (fun v => ?_) ?_
    rotate_left
    · (go_simp; all_goals rfl)
    simp only [Act.put]
    refine tame (k := 4) ?_ rfl (by kernel_rfl) (by kernel_rfl) (by kernel_rfl) (by kernel_rfl) (fun _ _ _ h => h) (by kernel_rfl) hS1_1m (fun v hv => ?_) ?_
    rotate_left
    · (obtain ⟨⟨k1, k2⟩, k3⟩ := hv; go_simp; all_goals rfl)
    simp only [Act.put]
    have hS1_1mv := Lib.hid hS1_1m
    clear hS1_1m
    refine tame_one (k := 6) (by kernel_rfl) rfl (by kernel_rfl) ?_
    go_simp
    refine (power_s b 4 (pw b 4) hb0 hb4 (by omega) (by omega) HP4.out _).mono ?_
    rintro e w8 ⟨rfl, rfl⟩
    refine ⟨by first | exact hS1_1mv | exact Hid.out hS1_1mv, ?_⟩
    refine tame_one (k := 7) (by kernel_rfl) rfl (by kernel_rfl) ?_
    go_simp
    refine ⟨by first | exact hS1_1mv | exact Hid.out hS1_1mv, ?_⟩
    rw [HPD.out]
    refine tame_one (k := 8) (by kernel_rfl) rfl (by kernel_rfl) ?_
    go_simp
    refine ⟨by first | exact hS1_1mv | exact Hid.out hS1_1mv, ?_⟩
    refine tame_end (by kernel_rfl) ?_
    have HV7 := (Below.drew (Below.refl w6.heap.size w6)).trans b7
    have r87 := r86.below HV7
    have r97 := r96.below HV7
    have HB7 := HB6.trans (HV7.mono HB6.size)
    clear r86 r96 HB6 HV7 bx6 os b7 h' e1 SK1 SK1m hd1 hd1_1 hm1_1 hS1_0 hS1_1 hS1_1mv s1 p1
    go_wp2_with fail
    refine (lowest_c _ _ (by omega) (by omega) (by omega) (by omega) _).mono ?_
    rintro e w9 ⟨rfl, b9⟩
    rw [HL1.out.2.1, HL1.out.2.2, HL1.out.1]
    generalize cutT (gnA P W F a b 0 S) (pgD P W b) = x1 at *
    generalize cutB (gnA P W F a b 0 S) (pgD P W b) = x2 at *
    have r89 := r87.below b9
    have r99 := r97.below b9
    have HB9 := bUp HB7 b9 HB7.size
    have HBa := HB9.alloc HB9.size (.cells #[.int .i64 x1, .int .i64 x2] 28)
    have r8a := r89.alloc (.cells #[.int .i64 x1, .int .i64 x2] 28)
    have r9a := r99.alloc (.cells #[.int .i64 x1, .int .i64 x2] 28)
    have bf := Bx.new w9 (.int .i64 x1) (.int .i64 x2) 28
    clear r87 r97 HB7 r89 r99 HB9 b9
    go_wp2_with fail
    refine (lowest_c _ _ (by omega) (by omega) (by omega) (by omega) _).mono ?_
    rintro e w10 ⟨rfl, b10⟩
    rw [HL2.out.2.1, HL2.out.2.2, HL2.out.1]
    generalize cutT (tmA P W a b 0 S) (pgD P W b) = y1 at *
    generalize cutB (tmA P W a b 0 S) (pgD P W b) = y2 at *
    have r810 := r8a.below b10
    have r910 := r9a.below b10
    have bf10 := bf.below b10
    have HB10 := bUp HBa b10 HBa.size
    obtain ⟨u0, u1, u2, u3, u4⟩ := id r810
    obtain ⟨t0, t1, t2, t3, t4⟩ := id r910
    obtain ⟨k0, k1, k2, k3, k4⟩ := id bf10
    clear r8a r9a bf HBa b10
    go_wp2
    go_region
    all_goals (try go_wp2)
    all_goals (refine bodyPost_ret (v := .tuple #[.agg #[.int .i64 x1, .int .i64 x2], .agg #[.int .i64 y1, .int .i64 y2], .bool true]) (by simp [results, Try.results11, go_sem, u0, u1, u4, t0, t1, t4]) rfl ⟨rfl, ?_⟩)
    all_goals (with_reducible repeat (first | exact HB10 | refine Below.drew ?_ | refine Below.setCell ?_ (by simp <;> omega) _ | refine Below.alloc ?_ (by have := HB10.size; simp <;> omega) _))
end Go.Proofs.Ytdhagkckkdaenaa
