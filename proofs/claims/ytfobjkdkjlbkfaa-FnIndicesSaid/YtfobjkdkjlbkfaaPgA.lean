/- PlayGain: both. -/
import Derived.Test.YtfobjkdkjlbkfaaIxA
import Derived.Test.YtfobjkdkjlbkfaaEq
namespace Go.Proofs.Ytfobjkdkjlbkfaa
open Go.RowKit

section
variable {P W F : List Int} {a b : Int} {S : List Int}
/-- Whether a set can be played from the root on. -/
def pgB (P W F : List Int) (a b : Int) (S : List Int) : Bool := (armB P W F && discB a b) && decide (S ∈ sts P 0)
/-- The scale: the sum of all, times b to the greatest power. -/
def pgD (P W : List Int) (b : Int) : Int := nth (gath P W) 0 * pw b 4
def pgF (P W F : List Int) (a b : Int) (S : List Int) : Int × Int := if pgB P W F a b S then (cutT (gnA P W F a b 0 S) (pgD P W b), cutB (gnA P W F a b 0 S) (pgD P W b)) else (0, 0)
def pgG (P W F : List Int) (a b : Int) (S : List Int) : Int × Int := if pgB P W F a b S then (cutT (tmA P W a b 0 S) (pgD P W b), cutB (tmA P W a b 0 S) (pgD P W b)) else (0, 0)
theorem pg_no (h : pgB P W F a b S = false) : pgF P W F a b S = (0, 0) ∧ pgG P W F a b S = (0, 0) := by
  unfold pgF pgG
  rw [h]
  exact ⟨rfl, rfl⟩
theorem pg_yes (h : pgB P W F a b S = true) : pgF P W F a b S = (cutT (gnA P W F a b 0 S) (pgD P W b), cutB (gnA P W F a b 0 S) (pgD P W b)) ∧ pgG P W F a b S = (cutT (tmA P W a b 0 S) (pgD P W b), cutB (tmA P W a b 0 S) (pgD P W b)) := by
  unfold pgF pgG
  rw [h]
  exact ⟨rfl, rfl⟩
theorem pgD_bd (h : ArmAB P W F a b) : 1 ≤ pgD P W b ∧ pgD P W b ≤ 46080 := by
  have h1 := gath_pos h.arm.tree (x := 0) (by have := h.arm.tree.n1; omega)
  have h2 := h.arm.sum180 0
  have h3 := pw_four h.b0 h.b4 (k := 4) (Nat.le_refl _)
  have h4 := pw_pos1 (b := b) (by have := h.a1; have := h.ab; omega) 4
  have h5 := mul_bd (nth (gath P W) 0) (pw b 4) 180 256 (by omega) h2.2 h3.1 h3.2
  have h6 := Int.mul_le_mul h1 h4 (by decide) (by omega)
  unfold pgD
  omega
theorem lw_ok {T B : Int} (hB : 0 < B) (hB2 : B ≤ 1000000) (hT : -1000000000 ≤ T) (hT2 : T ≤ 1000000000) : lwOk T B = true ∧ lwT T B = cutT T B ∧ lwB T B = cutB T B := by
  have h1 := cutT_bd (a := T) hB hT hT2
  have h2 := cutB_le (a := T) hB
  have h3 : lwOk T B = true := by
    rw [lwOk_eq hB, inB_iff.2 h1, decide_eq_true (by omega)]
    rfl
  refine ⟨h3, ?_⟩
  unfold lwOk at h3
  unfold lwT lwB kpT kpB
  rw [h3]
  exact ⟨rfl, rfl⟩
/-- The pair by the reference's scale. -/
theorem pg_ref (h : ArmAB P W F a b) (i : Nat → Bool) :
    (cutT (gnA P W F a b 0 (rL P i 0 P.length)) (pgD P W b), cutB (gnA P W F a b 0 (rL P i 0 P.length)) (pgD P W b)) = (cutT (gnR P W F a b i 0) (unitX P W b 0), cutB (gnR P W F a b i 0) (unitX P W b 0)) ∧
    (cutT (tmA P W a b 0 (rL P i 0 P.length)) (pgD P W b), cutB (tmA P W a b 0 (rL P i 0 P.length)) (pgD P W b)) = (cutT (tmR P W a b i 0) (unitX P W b 0), cutB (tmR P W a b i 0) (unitX P W b 0)) := by
  have hn : 0 < P.length := by have := h.arm.tree.n1; omega
  have hu := unitX_pos h.arm (b := b) (by have := h.a1; have := h.ab; omega) hn
  have hd := dpN_le h.arm hn
  have e : pgD P W b = kP P b 0 * unitX P W b 0 := by
    rw [unitX_eq h.arm hn, pgD, kP, dpN_zero, show (4 : Nat) = (4 - hN P + 0) + (hN P - 0) by omega, pw_add]
    simp only [Nat.add_zero, Nat.sub_zero]
    rw [show 4 - hN P + hN P - hN P = 4 - hN P by omega]
    grind
  have hp := (pgD_bd h).1
  constructor
  · have := cut_congr (a := gnA P W F a b 0 (rL P i 0 P.length)) (b := pgD P W b) (c := gnR P W F a b i 0) (d := unitX P W b 0) (by omega) (by omega) (by rw [gnA_eq h.arm hn, e]; grind)
    exact Prod.ext this.1 this.2
  · have := cut_congr (a := tmA P W a b 0 (rL P i 0 P.length)) (b := pgD P W b) (c := tmR P W a b i 0) (d := unitX P W b 0) (by omega) (by omega) (by rw [tmA_eq h.arm hn, e]; grind)
    exact Prod.ext this.1 this.2
end
theorem lAt_get {L : List (List Int)} {k : Nat} (h : k < L.length) : lAt L k = L[k] := by simp [lAt, List.getD_eq_getElem?_getD, h]
set_option maxRecDepth 20000 in
theorem pgClos_c (g7 : Nat) (A : Option Addr) (S : List Int) (cS : Nat) (A' : Option Addr) (s : List Int) (c' : Nat) (w : World) (h7 : w.cell? ⟨g7, 0, none⟩ = some (.slice A S.length cS)) (hS : Rd w A (ints S)) (hs : Rd w A' (ints s)) (hl : s.length ≤ 1000) (hl2 : S.length ≤ 16777216) :
    Calls Try.prog 50 #[.slice A' s.length c', .pointer (some ⟨g7, 0, none⟩)] w (Pure w (.bool (decide (s = S)))) := by
  go_enter Try.func50, Try.ntmps50
  go_wp2_with fail
  refine (slEqual_c A' A s S _ _ _ _ _ rfl rfl hs hS (by omega) hl2).mono ?_
  rintro e w2 ⟨rfl, hd⟩
  go_wp2
  go_ret
  exact ⟨rfl, hd⟩
set_option maxRecDepth 20000 in
set_option maxHeartbeats 1000000 in
theorem slIndexFn_c (g7 : Nat) (A : Option Addr) (S : List Int) (cS B : Nat) (AL : Option Addr) (cL : Nat) (L : List (List Int)) (w : World) (hR : RowsAt w B AL L) (h7 : w.cell? ⟨g7, 0, none⟩ = some (.slice A S.length cS)) (hS : Rd w A (ints S)) (hl : L.length ≤ 1000) (hl1 : ∀ k, k < L.length → (lAt L k).length ≤ 1000) (hl2 : S.length ≤ 16777216) :
    Calls Try.prog 104 #[.slice AL L.length cL, .func (.func 50) #[] #[.pointer (some ⟨g7, 0, none⟩)]] w fun e w' => (∃ v : Int, e = .returned (.int .i64 v) ∧ -1 ≤ v ∧ v ≤ 1000 ∧ decide (S ∈ L) = decide (0 ≤ v)) ∧ Dr w w' := by
  have HL1 := Lib.hid hl1
  clear hl1
  go_enter Try.func104, Try.ntmps104
  go_wp2
  go_loopw [8] (fun i wr => ∃ k : Nat, k ≤ L.length ∧ i = .int .i64 (k : Int) ∧ (∀ j, j < k → lAt L j ≠ S) ∧ Dr w wr) (fun i _ => L.length - (intOf i).toNat)
  case atStart => exact ⟨0, Nat.zero_le _, rfl, fun j hj => by omega, Dr.refl _⟩
  case round =>
    obtain ⟨k, hk, rfl, hall, hd⟩ := hrel
    obtain ⟨wo, rfl⟩ : ∃ wo : World, wo = wr := ⟨_, rfl⟩
    have HA := Lib.hid hall
    clear hall
    by_cases hlt : k < L.length
    · obtain ⟨g, a, c, rfl, hc, hr, _, _⟩ := hR k hlt
      have hc' : wo.cell? ⟨g, k, none⟩ = some (.slice (some a) (lAt L k).length c) := by obtain ⟨n, rfl⟩ := hd; exact hc
      have h7' : wo.cell? ⟨g7, 0, none⟩ = some (.slice A S.length cS) := by obtain ⟨n, rfl⟩ := hd; exact h7
      cases hq : decide (lAt L k = S)
      · have HQ := Lib.hid hq
        go_wp2_with fail
        refine (pgClos_c g7 A S cS (some a) (lAt L k) c _ h7' (hS.dr hd) (hr.dr hd) (HL1.out k hlt) hl2).mono ?_
        rintro e w2 ⟨rfl, hd2⟩
        rw [HQ.out]
        clear hq
        go_wp2
        go_roundw
        case rel => exact ⟨k + 1, by omega, by go_num, fun j hj => by
          rcases Nat.lt_or_ge j k with h | h
          · exact HA.out j h
          · rw [show j = k by omega]; exact of_decide_eq_false HQ.out, hd.trans hd2⟩
        case measure => simp [intOf] <;> omega
      · have HQ := Lib.hid hq
        have HE : Hid (decide (S ∈ L) = true) := Lib.hid (decide_eq_true (by rw [← of_decide_eq_true hq]; exact lAt_mem hlt))
        go_wp2_with fail
        refine (pgClos_c g7 A S cS (some a) (lAt L k) c _ h7' (hS.dr hd) (hr.dr hd) (HL1.out k hlt) hl2).mono ?_
        rintro e w2 ⟨rfl, hd2⟩
        rw [HQ.out]
        clear hq
        go_wp2
        go_ret
        exact ⟨⟨_, rfl, by omega, by omega, by rw [HE.out, decide_eq_true (by omega)]⟩, hd.trans hd2⟩
    · have HE : Hid (decide (S ∈ L) = false) := Lib.hid (decide_eq_false fun h => by
        obtain ⟨j, hj, e⟩ := List.mem_iff_getElem.1 h
        exact HA.out j (by omega) (by rw [lAt_get hj]; exact e))
      go_wp2
      go_ret
      exact ⟨⟨_, rfl, by omega, by omega, by rw [HE.out, decide_eq_false (by omega)]⟩, hd⟩
set_option maxRecDepth 20000 in
theorem slContainsFn_is (g7 : Nat) (A : Option Addr) (S : List Int) (cS B : Nat) (AL : Option Addr) (cL : Nat) (L : List (List Int)) (q : Bool) (hq : decide (S ∈ L) = q) (w : World) (hR : RowsAt w B AL L) (h7 : w.cell? ⟨g7, 0, none⟩ = some (.slice A S.length cS)) (hS : Rd w A (ints S)) (hl : L.length ≤ 1000) (hl1 : ∀ k, k < L.length → (lAt L k).length ≤ 1000) (hl2 : S.length ≤ 16777216) :
    Calls Try.prog 48 #[.slice AL L.length cL, .func (.func 50) #[] #[.pointer (some ⟨g7, 0, none⟩)]] w (Pure w (.bool q)) := by
  have HL1 := Lib.hid hl1
  clear hl1
  go_enter Try.func48, Try.ntmps48
  go_wp2_with fail
  refine (slIndexFn_c g7 A S cS B AL cL L _ hR h7 hS hl HL1.out hl2).mono ?_
  rintro e w2 ⟨⟨v, rfl, h1, h2, h3⟩, hd⟩
  rw [hq] at h3
  have H3 := Lib.hid h3
  clear h3
  go_wp2
  go_ret
  exact ⟨by rw [H3.out] <;> rfl, hd⟩
theorem sts_idx {P : List Int} {S : List Int} (h : S ∈ sts P 0) : ∃ k, k < (sts P 0).length ∧ lAt (sts P 0) k = S := by
  obtain ⟨k, hk, e⟩ := List.mem_iff_getElem.1 h
  exact ⟨k, hk, by rw [lAt_get hk]; exact e⟩
set_option maxRecDepth 20000 in
set_option maxHeartbeats 2000000 in
theorem implPg_c (A1 : Option Addr) (P : List Int) (c1 : Nat) (A2 : Option Addr) (W : List Int) (c2 : Nat) (A3 : Option Addr) (F : List Int) (c3 : Nat) (a b : Int) (AS : Option Addr) (S : List Int) (cS : Nat) (w : World) (h : RdM w A1 P A2 W A3 F) (hS : Rd w AS (ints S)) (hSl : S.length ≤ 16777216) :
    Calls Try.prog 7 #[mkV A1 P.length c1 A2 W.length c2 A3 F.length c3, .int .i64 a, .int .i64 b, .slice AS S.length cS] w (Quietly w (.tuple #[.agg #[.int .i64 (pgF P W F a b S).1, .int .i64 (pgF P W F a b S).2], .agg #[.int .i64 (pgG P W F a b S).1, .int .i64 (pgG P W F a b S).2], .bool (pgB P W F a b S)])) := by
  have hmf : ∀ (fn : Fn) (first cap : Array Value) (w : World), (Instr.makeFunc fn first cap).run Try.prog w = .ok (.func fn first cap) w := fun _ _ _ _ => rfl
  have HB1 : Below w.heap.size w ((((w.alloc (.cells #[.slice A1 P.length c1, .slice A2 W.length c2, .slice A3 F.length c3] 28)).alloc (.cells #[.slice AS S.length cS] 24)).alloc (.cells #[.int .i64 0, .int .i64 0] 31)).alloc (.cells #[.int .i64 0, .int .i64 0] 31)) := ((((Below.refl _ _).alloc (Nat.le_refl _) _).alloc (by simp) _).alloc (by simp <;> omega) _).alloc (by simp <;> omega) _
  have bx := (((Bx3.new w (.slice A1 P.length c1) (.slice A2 W.length c2) (.slice A3 F.length c3) 28).alloc (.cells #[.slice AS S.length cS] 24)).alloc (.cells #[.int .i64 0, .int .i64 0] 31)).alloc (.cells #[.int .i64 0, .int .i64 0] 31)
  have b7 : ((((w.alloc (.cells #[.slice A1 P.length c1, .slice A2 W.length c2, .slice A3 F.length c3] 28)).alloc (.cells #[.slice AS S.length cS] 24)).alloc (.cells #[.int .i64 0, .int .i64 0] 31)).alloc (.cells #[.int .i64 0, .int .i64 0] 31)).cell? ⟨w.heap.size + 1, 0, none⟩ = some (.slice AS S.length cS) := by
    rw [World.cell?_alloc_past _ _ _ (by simp), World.cell?_alloc_past _ _ _ (by simp), World.cell?_alloc_at _ _ _ _ (by simp)]
    rfl
  have r8 := (Bx.new ((w.alloc (.cells #[.slice A1 P.length c1, .slice A2 W.length c2, .slice A3 F.length c3] 28)).alloc (.cells #[.slice AS S.length cS] 24)) (.int .i64 0) (.int .i64 0) 31).alloc (.cells #[.int .i64 0, .int .i64 0] 31)
  have r9 := Bx.new (((w.alloc (.cells #[.slice A1 P.length c1, .slice A2 W.length c2, .slice A3 F.length c3] 28)).alloc (.cells #[.slice AS S.length cS] 24)).alloc (.cells #[.int .i64 0, .int .i64 0] 31)) (.int .i64 0) (.int .i64 0) 31
  simp only [World.size_alloc] at r8 r9
  have z7 : w.heap.size + 1 < ((((w.alloc (.cells #[.slice A1 P.length c1, .slice A2 W.length c2, .slice A3 F.length c3] 28)).alloc (.cells #[.slice AS S.length cS] 24)).alloc (.cells #[.int .i64 0, .int .i64 0] 31)).alloc (.cells #[.int .i64 0, .int .i64 0] 31)).heap.size := by simp
  cases ha : armB P W F
  · have HQ := Lib.hid (show pgB P W F a b S = false by rw [pgB, ha]; rfl)
    rw [(pg_no HQ.out).1, (pg_no HQ.out).2, HQ.out]
    go_enter Try.func7, Try.ntmps7
    go_wp2_with fail
    generalize ((((w.alloc (.cells #[.slice A1 P.length c1, .slice A2 W.length c2, .slice A3 F.length c3] 28)).alloc (.cells #[.slice AS S.length cS] 24)).alloc (.cells #[.int .i64 0, .int .i64 0] 31)).alloc (.cells #[.int .i64 0, .int .i64 0] 31)) = v at *
    refine (implArm_is _ _ _ _ _ _ _ _ _ _ ha _ (h.below HB1 (Nat.le_refl _))).mono ?_
    rintro e w2 ⟨rfl, b2⟩
    obtain ⟨u0, u1, u2, u3, u4⟩ := r8.below b2
    obtain ⟨t0, t1, t2, t3, t4⟩ := r9.below b2
    have HB2 := bUp HB1 b2 HB1.size
    go_wp2
    exact bodyPost_ret (v := .tuple #[.agg #[.int .i64 0, .int .i64 0], .agg #[.int .i64 0, .int .i64 0], .bool false]) (by simp [results, Try.results7, go_sem, u0, u1, t0, t1]) rfl ⟨rfl, by with_reducible repeat (first | exact HB2 | refine Below.setCell ?_ (by simp <;> omega) _)⟩
  cases hd : discB a b
  · have HQ := Lib.hid (show pgB P W F a b S = false by rw [pgB, hd]; simp)
    rw [(pg_no HQ.out).1, (pg_no HQ.out).2, HQ.out]
    go_enter Try.func7, Try.ntmps7
    go_wp2_with fail
    generalize ((((w.alloc (.cells #[.slice A1 P.length c1, .slice A2 W.length c2, .slice A3 F.length c3] 28)).alloc (.cells #[.slice AS S.length cS] 24)).alloc (.cells #[.int .i64 0, .int .i64 0] 31)).alloc (.cells #[.int .i64 0, .int .i64 0] 31)) = v at *
    refine (implArm_is _ _ _ _ _ _ _ _ _ _ ha _ (h.below HB1 (Nat.le_refl _))).mono ?_
    rintro e w2 ⟨rfl, b2⟩
    go_wp2_with fail
    refine (isDiscount_is _ _ _ hd _).mono ?_
    rintro e w3 ⟨rfl, rfl⟩
    obtain ⟨u0, u1, u2, u3, u4⟩ := r8.below b2
    obtain ⟨t0, t1, t2, t3, t4⟩ := r9.below b2
    have HB2 := bUp HB1 b2 HB1.size
    go_wp2
    exact bodyPost_ret (v := .tuple #[.agg #[.int .i64 0, .int .i64 0], .agg #[.int .i64 0, .int .i64 0], .bool false]) (by simp [results, Try.results7, go_sem, u0, u1, t0, t1]) rfl ⟨rfl, by with_reducible repeat (first | exact HB2 | refine Below.setCell ?_ (by simp <;> omega) _)⟩
  have hq : (armB P W F && discB a b) = true := by rw [ha, hd]; rfl
  have hk := armAB_iff.1 hq
  have hok := hk.arm
  have hn1 := hok.tree.n1
  have hn2 := hok.tree.n2
  have hn9 := hok.n9
  have HFL := Lib.hid hok.len
  have hx0 : 0 < P.length := by omega
  have hsl := sts_len hn9 0
  have HR1 : Hid (∀ k, k < (sts P 0).length → (lAt (sts P 0) k).length ≤ 1000) := Lib.hid fun k hk' => by have := sts_row hn9 hk'; omega
  cases hm : decide (S ∈ sts P 0)
  · have HQ := Lib.hid (show pgB P W F a b S = false by rw [pgB, hq, hm]; rfl)
    rw [(pg_no HQ.out).1, (pg_no HQ.out).2, HQ.out]
    clear hq
    go_enter Try.func7, Try.ntmps7
    go_wp2_with fail
    generalize ((((w.alloc (.cells #[.slice A1 P.length c1, .slice A2 W.length c2, .slice A3 F.length c3] 28)).alloc (.cells #[.slice AS S.length cS] 24)).alloc (.cells #[.int .i64 0, .int .i64 0] 31)).alloc (.cells #[.int .i64 0, .int .i64 0] 31)) = v at *
    refine (implArm_is _ _ _ _ _ _ _ _ _ _ ha _ (h.below HB1 (Nat.le_refl _))).mono ?_
    rintro e w2 ⟨rfl, b2⟩
    go_wp2_with fail
    refine (isDiscount_is _ _ _ hd _).mono ?_
    rintro e w3 ⟨rfl, rfl⟩
    have bx2 := bx.below b2
    have r82 := r8.below b2
    have r92 := r9.below b2
    have b72 := (b2.cell (p := ⟨w.heap.size + 1, 0, none⟩) z7).trans b7
    have HB2 := bUp HB1 b2 HB1.size
    have z72 := Nat.lt_of_lt_of_le z7 b2.size
    clear bx r8 r9 b7 HB1 z7 b2
    obtain ⟨f0, f1, f2, fz⟩ := id bx2
    go_wp2_with fail
    refine (sets_c A1 P c1 A2 W c2 A3 F c3 0 _ (h.below HB2 (Nat.le_refl _)) hok.tree.par HFL.out hn9 hx0).mono ?_
    rintro e w4 ⟨AL, cL, rfl, hR, b4⟩
    have bx3 := bx2.below b4
    have r83 := r82.below b4
    have r93 := r92.below b4
    have b73 := (b4.cell (p := ⟨w.heap.size + 1, 0, none⟩) z72).trans b72
    have HB3 := bUp HB2 b4 HB2.size
    clear bx2 r82 r92 b72 HB2 b4 f0 f1 f2 fz z72
    obtain ⟨f0, f1, f2, fz⟩ := id bx3
    go_wp2_with fail
    refine (slContainsFn_is (w.heap.size + 1) AS S cS _ AL cL (sts P 0) false hm _ hR b73 (hS.below HB3 (Nat.le_refl _)) (by omega) HR1.out hSl).mono ?_
    rintro e w5 ⟨rfl, n5, rfl⟩
    obtain ⟨u0, u1, u2, u3, u4⟩ := r83.drewN n5
    obtain ⟨t0, t1, t2, t3, t4⟩ := r93.drewN n5
    have HB5 := bDrewN HB3 n5
    go_wp2
    exact bodyPost_ret (v := .tuple #[.agg #[.int .i64 0, .int .i64 0], .agg #[.int .i64 0, .int .i64 0], .bool false]) (by simp [results, Try.results7, go_sem, u0, u1, t0, t1]) rfl ⟨rfl, by with_reducible repeat (first | exact HB5 | refine Below.setCell ?_ (by simp <;> omega) _)⟩
  · have HQ := Lib.hid (show pgB P W F a b S = true by rw [pgB, hq, hm]; rfl)
    rw [(pg_yes HQ.out).1, (pg_yes HQ.out).2, HQ.out]
    obtain ⟨kS, hkS, ekS⟩ := sts_idx (of_decide_eq_true hm)
    obtain ⟨hkn, hn9S, _, htp, hgb, htb⟩ := sts_known hk hx0 hkS
    rw [ekS] at hkn hn9S htp hgb htb
    have HKN := Lib.hid hkn
    have pd := pgD_bd hk
    have HL1 := Lib.hid (lw_ok (T := gnA P W F a b 0 S) (B := pgD P W b) (by omega) (by omega) (by omega) (by omega))
    have HL2 := Lib.hid (lw_ok (T := tmA P W a b 0 S) (B := pgD P W b) (by omega) (by omega) (by omega) (by omega))
    clear hq hkn hkS ekS
    go_enter Try.func7, Try.ntmps7
    go_wp2_with fail
    generalize ((((w.alloc (.cells #[.slice A1 P.length c1, .slice A2 W.length c2, .slice A3 F.length c3] 28)).alloc (.cells #[.slice AS S.length cS] 24)).alloc (.cells #[.int .i64 0, .int .i64 0] 31)).alloc (.cells #[.int .i64 0, .int .i64 0] 31)) = v at *
    refine (implArm_is _ _ _ _ _ _ _ _ _ _ ha _ (h.below HB1 (Nat.le_refl _))).mono ?_
    rintro e w2 ⟨rfl, b2⟩
    go_wp2_with fail
    refine (isDiscount_is _ _ _ hd _).mono ?_
    rintro e w3 ⟨rfl, rfl⟩
    have bx2 := bx.below b2
    have r82 := r8.below b2
    have r92 := r9.below b2
    have b72 := (b2.cell (p := ⟨w.heap.size + 1, 0, none⟩) z7).trans b7
    have HB2 := bUp HB1 b2 HB1.size
    have z72 := Nat.lt_of_lt_of_le z7 b2.size
    clear bx r8 r9 b7 HB1 z7 b2
    obtain ⟨f0, f1, f2, fz⟩ := id bx2
    go_wp2_with fail
    refine (sets_c A1 P c1 A2 W c2 A3 F c3 0 _ (h.below HB2 (Nat.le_refl _)) hok.tree.par HFL.out hn9 hx0).mono ?_
    rintro e w4 ⟨AL, cL, rfl, hR, b4⟩
    have bx3 := bx2.below b4
    have r83 := r82.below b4
    have r93 := r92.below b4
    have b73 := (b4.cell (p := ⟨w.heap.size + 1, 0, none⟩) z72).trans b72
    have HB3 := bUp HB2 b4 HB2.size
    clear bx2 r82 r92 b72 HB2 b4 f0 f1 f2 fz z72
    obtain ⟨f0, f1, f2, fz⟩ := id bx3
    go_wp2_with fail
    refine (slContainsFn_is (w.heap.size + 1) AS S cS _ AL cL (sts P 0) true hm _ hR b73 (hS.below HB3 (Nat.le_refl _)) (by omega) HR1.out hSl).mono ?_
    rintro e w5 ⟨rfl, n5, rfl⟩
    have bx5 := bx3.drewN n5
    have r85 := r83.drewN n5
    have r95 := r93.drewN n5
    have HB5 := bDrewN HB3 n5
    have b75 : (w4.drewN n5).cell? ⟨w.heap.size + 1, 0, none⟩ = some (.slice AS S.length cS) := b73
    generalize w4.drewN n5 = w5 at *
    clear bx3 r83 r93 b73 HB3 hR f0 f1 f2
    obtain ⟨f0, f1, f2, fz⟩ := id bx5
    go_wp2_with fail
    refine (played_c A1 P c1 A2 W c2 A3 F c3 a b 0 AS S cS _ (h.below HB5 (Nat.le_refl _)) hk hx0 (hS.below HB5 (Nat.le_refl _)) hn9S HKN.out).mono ?_
    rintro e w6 ⟨rfl, b6⟩
    have bx6 := bx5.below b6
    have r86 := r85.below b6
    have r96 := r95.below b6
    have HB6 := bUp HB5 b6 HB5.size
    clear bx5 r85 r95 HB5 b75 f0 f1 f2 b6
    have hb0 := hk.b0
    have hb4 := hk.b4
    have s1 := hok.sum180 0
    have p1 := pw_four hb0 hb4 (k := 4) (Nat.le_refl _)
    have HPD : Hid (nth (gath P W) 0 * pw b 4 = pgD P W b) := Lib.hid rfl
    have e1 : IntKind.i64.wrap (nth (gath P W) 0 * pw b 4) = nth (gath P W) 0 * pw b 4 := by rw [HPD.out]; exact IntWalk.i64_in _ (by omega)
    have HP4 : Hid (pw b (4 : Int).toNat = pw b 4) := Lib.hid rfl
    go_upto_region 4 with fail
    obtain ⟨f0, f1, f2, fz⟩ := id bx6
    have h' := h.below (Below.drew HB6) (Nat.le_refl _)
    have hd1 : Below w6.heap.size w6 w6.drew := Below.drew (Below.refl _ _)
    have SK1 : Hid (∀ w', Below w6.heap.size w6 w' → w'.cell? ⟨w.heap.size, 0, none⟩ = some (.slice A1 P.length c1) ∧ w'.cell? ⟨w.heap.size, 1, none⟩ = some (.slice A2 W.length c2)) := Lib.hid fun w' HV => ⟨(HV.cell (p := ⟨w.heap.size, 0, none⟩) fz).trans f0, (HV.cell (p := ⟨w.heap.size, 1, none⟩) fz).trans f1⟩
    clear f0 f1 f2
    have hS1_0 := SK1.out _ hd1
    refine tamed_region (S := fun w' => w'.cell? ⟨w.heap.size, 0, none⟩ = some (.slice A1 P.length c1) ∧ w'.cell? ⟨w.heap.size, 1, none⟩ = some (.slice A2 W.length c2)) (fun _ => false) (by kernel_rfl) ?_
    refine tame0 (k := 0) ?_ rfl (by kernel_rfl) (by kernel_rfl) (by kernel_rfl) (fun _ _ _ h => h) (by kernel_rfl) (fun v => ?_) ?_
    rotate_left
    · (go_simp; all_goals rfl)
    simp only [Act.put, List.setIfInBounds_toArray]
    refine tame (k := 1) ?_ rfl (by kernel_rfl) (by kernel_rfl) (by kernel_rfl) (by kernel_rfl) (fun _ _ _ h => h) (by kernel_rfl) hS1_0 (fun v hv => ?_) ?_
    rotate_left
    · (obtain ⟨k1, k2⟩ := hv; go_simp; all_goals rfl)
    simp only [Act.put]
    refine tame0 (k := 5) ?_ rfl (by kernel_rfl) (by kernel_rfl) (by kernel_rfl) (fun _ _ _ h => h) (by kernel_rfl) (fun v => ?_) ?_
    rotate_left
    · (go_simp; all_goals rfl)
    simp only [Act.put]
    refine tame_one (k := 2) (by kernel_rfl) rfl (by kernel_rfl) ?_
    go_simp
    refine (sums_c A1 P c1 A2 W c2 _ h'.r1 h'.r2 hok.tree hn1 hn2).mono ?_
    rintro e w7 ⟨As, cs, rfl, os, b7⟩
    have hd1_1 := bUp hd1 b7 (Nat.le_refl _)
    have hS1_1 := Lib.hid (SK1.out _ hd1_1)
    refine ⟨by first | exact hS1_1 | exact Hid.out hS1_1, ?_⟩
    have HSL := Lib.hid (show (gath P W).length = P.length by rw [gath_length, hok.tree.len])
    obtain ⟨gs, rfl, hgs, hgs2⟩ := os.form (by rw [HSL.out]; omega)
    have qs := os.cellN (k := 0) (by rw [HSL.out]; exact hx0)
    have SK1m : Hid (∀ w', Below w7.heap.size w7 w' → (w'.cell? ⟨w.heap.size, 0, none⟩ = some (.slice A1 P.length c1) ∧ w'.cell? ⟨w.heap.size, 1, none⟩ = some (.slice A2 W.length c2)) ∧ w'.cell? ⟨gs, 0, none⟩ = some (.int .i64 (nth (gath P W) 0))) := Lib.hid fun w' HV => ⟨SK1.out _ (bUp hd1_1 HV hd1_1.size), (HV.cell (p := ⟨gs, 0, none⟩) hgs2).trans qs⟩
    clear qs
    have hm1_1 : Below w7.heap.size w7 w7 := Below.refl _ _
    have hS1_1m := SK1m.out _ hm1_1
    refine Tamed.more (S2 := fun w' => (w'.cell? ⟨w.heap.size, 0, none⟩ = some (.slice A1 P.length c1) ∧ w'.cell? ⟨w.heap.size, 1, none⟩ = some (.slice A2 W.length c2)) ∧ w'.cell? ⟨gs, 0, none⟩ = some (.int .i64 (nth (gath P W) 0))) (fun _ => rfl) (fun _ h => h.1) _ _ _ _ hS1_1m ?_
    refine tame0 (k := 3) ?_ rfl (by kernel_rfl) (by kernel_rfl) (by kernel_rfl) (fun _ _ _ h => h) (by kernel_rfl) (fun v => ?_) ?_
    rotate_left
    · (go_simp; all_goals rfl)
    simp only [Act.put]
    refine tame (k := 4) ?_ rfl (by kernel_rfl) (by kernel_rfl) (by kernel_rfl) (by kernel_rfl) (fun _ _ _ h => h) (by kernel_rfl) hS1_1m (fun v hv => ?_) ?_
    rotate_left
    · (obtain ⟨⟨k1, k2⟩, k3⟩ := hv; go_simp; all_goals rfl)
    simp only [Act.put]
    have hS1_1mv := Lib.hid hS1_1m
    clear hS1_1m
    refine tame_one (k := 6) (by kernel_rfl) rfl (by kernel_rfl) ?_
    go_simp
    refine (power_s b 4 (pw b 4) hb0 hb4 (by omega) (by omega) HP4.out _).mono ?_
    rintro e w8 ⟨rfl, rfl⟩
    refine ⟨by first | exact hS1_1mv | exact Hid.out hS1_1mv, ?_⟩
    refine tame_one (k := 7) (by kernel_rfl) rfl (by kernel_rfl) ?_
    go_simp
    refine ⟨by first | exact hS1_1mv | exact Hid.out hS1_1mv, ?_⟩
    rw [HPD.out]
    refine tame_one (k := 8) (by kernel_rfl) rfl (by kernel_rfl) ?_
    go_simp
    refine ⟨by first | exact hS1_1mv | exact Hid.out hS1_1mv, ?_⟩
    refine tame_end (by kernel_rfl) ?_
    have HV7 := (Below.drew (Below.refl w6.heap.size w6)).trans b7
    have r87 := r86.below HV7
    have r97 := r96.below HV7
    have HB7 := HB6.trans (HV7.mono HB6.size)
    clear r86 r96 HB6 HV7 bx6 os b7 h' e1 SK1 SK1m hd1 hd1_1 hm1_1 hS1_0 hS1_1 hS1_1mv s1 p1
    go_wp2_with fail
    refine (lowest_c _ _ (by omega) (by omega) (by omega) (by omega) _).mono ?_
    rintro e w9 ⟨rfl, b9⟩
    rw [HL1.out.2.1, HL1.out.2.2, HL1.out.1]
    generalize cutT (gnA P W F a b 0 S) (pgD P W b) = x1 at *
    generalize cutB (gnA P W F a b 0 S) (pgD P W b) = x2 at *
    have r89 := r87.below b9
    have r99 := r97.below b9
    have HB9 := bUp HB7 b9 HB7.size
    have HBa := HB9.alloc HB9.size (.cells #[.int .i64 x1, .int .i64 x2] 31)
    have r8a := r89.alloc (.cells #[.int .i64 x1, .int .i64 x2] 31)
    have r9a := r99.alloc (.cells #[.int .i64 x1, .int .i64 x2] 31)
    have bf := Bx.new w9 (.int .i64 x1) (.int .i64 x2) 31
    clear r87 r97 HB7 r89 r99 HB9 b9
    go_wp2_with fail
    refine (lowest_c _ _ (by omega) (by omega) (by omega) (by omega) _).mono ?_
    rintro e w10 ⟨rfl, b10⟩
    rw [HL2.out.2.1, HL2.out.2.2, HL2.out.1]
    generalize cutT (tmA P W a b 0 S) (pgD P W b) = y1 at *
    generalize cutB (tmA P W a b 0 S) (pgD P W b) = y2 at *
    have r810 := r8a.below b10
    have r910 := r9a.below b10
    have bf10 := bf.below b10
    have HB10 := bUp HBa b10 HBa.size
    obtain ⟨u0, u1, u2, u3, u4⟩ := id r810
    obtain ⟨t0, t1, t2, t3, t4⟩ := id r910
    obtain ⟨k0, k1, k2, k3, k4⟩ := id bf10
    clear r8a r9a bf HBa b10
    go_wp2
    go_region
    all_goals (try go_wp2)
    all_goals (refine bodyPost_ret (v := .tuple #[.agg #[.int .i64 x1, .int .i64 x2], .agg #[.int .i64 y1, .int .i64 y2], .bool true]) (by simp [results, Try.results7, go_sem, u0, u1, u4, t0, t1, t4]) rfl ⟨rfl, ?_⟩)
    all_goals (with_reducible repeat (first | exact HB10 | refine Below.drew ?_ | refine Below.setCell ?_ (by simp <;> omega) _ | refine Below.alloc ?_ (by have := HB10.size; simp <;> omega) _))

/-- The first k numbers rise and lie between 0 and n. -/
def ascT (S : List Int) (n : Int) : Nat → Bool
  | 0 => true
  | k + 1 => ascT S n k && (inB (nth S k) 0 n && (decide (k = 0) || decide (nth S (k - 1) < nth S k)))
theorem ascT_iff {S : List Int} {n : Int} : ∀ {k}, ascT S n k = true ↔ ∀ j, j < k → (0 ≤ nth S j ∧ nth S j ≤ n) ∧ (0 < j → nth S (j - 1) < nth S j)
  | 0 => by simp [ascT]
  | k + 1 => by
    rw [ascT]
    simp only [Bool.and_eq_true, Bool.or_eq_true, decide_eq_true_eq, inB_iff, ascT_iff (k := k)]
    constructor
    · rintro ⟨h1, h2, h3⟩ j hj
      rcases Nat.eq_or_lt_of_le (Nat.lt_succ_iff.1 hj) with rfl | h
      · exact ⟨h2, fun h0 => h3.resolve_left (by omega)⟩
      · exact h1 j h
    · intro h
      refine ⟨fun j hj => h j (by omega), (h k (by omega)).1, ?_⟩
      rcases Nat.eq_zero_or_pos k with h0 | h0
      · exact .inl h0
      · exact .inr ((h k (by omega)).2 h0)
theorem ascT_no {S : List Int} {n : Int} {k m : Nat} (h : ascT S n k = false) (hk : k ≤ m) : ascT S n m = false := by
  cases hb : ascT S n m
  · rfl
  · have h1 := ascT_iff.1 hb
    rw [ascT_iff.2 fun j hj => h1 j (by omega)] at h
    cases h
theorem asc_lt {S : List Int} {n : Int} {m : Nat} (h : ascT S n m = true) {i : Nat} : ∀ j, i < j → j < m → nth S i < nth S j
  | 0, h1, _ => by omega
  | j + 1, h1, h2 => by
    have h3 := (ascT_iff.1 h (j + 1) h2).2 (by omega)
    rw [Nat.add_sub_cancel] at h3
    rcases Nat.eq_or_lt_of_le (Nat.lt_succ_iff.1 h1) with rfl | h4
    · exact h3
    · have := asc_lt h j h4 (by omega)
      omega
theorem asc_pair {S : List Int} {n : Int} (h : ascT S n S.length = true) : S.Pairwise (· < ·) := by
  rw [List.pairwise_iff_getElem]
  intro i j hi hj hij
  have := asc_lt h j hij hj
  rw [nth_eq hi, nth_eq hj] at this
  exact this
theorem asc_ext : ∀ {l1 l2 : List Int}, l1.Pairwise (· < ·) → l2.Pairwise (· < ·) → (∀ q, q ∈ l1 ↔ q ∈ l2) → l1 = l2
  | [], [], _, _, _ => rfl
  | [], b :: u, _, _, h => by have := (h b).2 List.mem_cons_self; cases this
  | a :: t, [], _, _, h => by have := (h a).1 List.mem_cons_self; cases this
  | a :: t, b :: u, h1, h2, h => by
    rw [List.pairwise_cons] at h1 h2
    have e : a = b := by
      rcases List.mem_cons.1 ((h a).1 List.mem_cons_self) with e | e
      · exact e
      · rcases List.mem_cons.1 ((h b).2 List.mem_cons_self) with e' | e'
        · exact e'.symm
        · have := h2.1 a e
          have := h1.1 b e'
          omega
    subst e
    rw [asc_ext h1.2 h2.2]
    intro q
    constructor
    · intro hq
      have h3 := h1.1 q hq
      rcases List.mem_cons.1 ((h q).1 (List.mem_cons_of_mem _ hq)) with e | e
      · omega
      · exact e
    · intro hq
      have h3 := h2.1 q hq
      rcases List.mem_cons.1 ((h q).2 (List.mem_cons_of_mem _ hq)) with e | e
      · omega
      · exact e
theorem rL_pair (P : List Int) (i : Nat → Bool) (x k : Nat) : (rL P i x k).Pairwise (· < ·) := by
  unfold rL
  rw [List.pairwise_map]
  refine List.Pairwise.imp ?_ ((List.pairwise_lt_range (n := k)).filter _)
  intro a b h
  omega
/-- The first k nodes are inner ones, each with its parent ahead of it. -/
def okT (P S : List Int) : Nat → Bool
  | 0 => true
  | k + 1 => okT P S k && (!endB P (nth S k).toNat && (decide (nth S k = 0) || hasI (S.take k) (nth P (nth S k).toNat)))
theorem okT_iff {P S : List Int} : ∀ {k}, okT P S k = true ↔ ∀ j, j < k → endB P (nth S j).toNat = false ∧ (nth S j = 0 ∨ hasI (S.take j) (nth P (nth S j).toNat) = true)
  | 0 => by simp [okT]
  | k + 1 => by
    rw [okT]
    simp only [Bool.and_eq_true, Bool.or_eq_true, decide_eq_true_eq, Bool.not_eq_true', okT_iff (k := k)]
    constructor
    · rintro ⟨h1, h2, h3⟩ j hj
      rcases Nat.eq_or_lt_of_le (Nat.lt_succ_iff.1 hj) with rfl | h
      · exact ⟨h2, h3⟩
      · exact h1 j h
    · intro h
      exact ⟨fun j hj => h j (by omega), (h k (by omega)).1, (h k (by omega)).2⟩
theorem okT_no {P S : List Int} {k m : Nat} (h : okT P S k = false) (hk : k ≤ m) : okT P S m = false := by
  cases hb : okT P S m
  · rfl
  · have h1 := okT_iff.1 hb
    rw [okT_iff.2 fun j hj => h1 j (by omega)] at h
    cases h
/-- Being in a set. -/
def memB (S : List Int) (y : Nat) : Bool := hasI S (y : Int)
theorem ok_rL {P S : List Int} (hp : ParOk P) (h1 : ascT S ((P.length : Int) - 1) S.length = true) (h2 : 0 < S.length) (h3 : nth S 0 = 0) (h4 : okT P S S.length = true) : S = rL P (memB S) 0 P.length := by
  have hin : ∀ j, j < S.length → ∃ y : Nat, nth S j = (y : Int) ∧ y < P.length := fun j hj => by
    have := (ascT_iff.1 h1 j hj).1
    exact ⟨(nth S j).toNat, by omega, by omega⟩
  have hmem : ∀ y : Nat, y < P.length → ((y : Int) ∈ S ↔ rch P (memB S) 0 y = true) := by
    intro y
    induction y using Nat.strongRecOn with
    | _ y ih =>
      intro hy
      rcases Nat.eq_zero_or_pos y with rfl | h0
      · rw [rch_self]
        refine ⟨fun _ => rfl, fun _ => ?_⟩
        have := List.getElem_mem h2
        rw [← nth_eq h2, h3] at this
        exact this
      · obtain ⟨p, hpp, hpl⟩ := par_of hp h0 hy
        rw [rch_step hpp hpl h0, Bool.and_eq_true]
        constructor
        · intro hm
          refine ⟨hasI_iff.2 hm, (ih p hpl (by omega)).1 ?_⟩
          obtain ⟨j, hj, e⟩ := List.mem_iff_getElem.1 hm
          have e' : nth S j = (y : Int) := by rw [nth_eq hj]; exact e
          have h5 := (okT_iff.1 h4 j hj).2
          rw [e', Int.toNat_natCast, hpp] at h5
          exact List.mem_of_mem_take (hasI_iff.1 (h5.resolve_left (by omega)))
        · intro hm
          exact hasI_iff.1 hm.1
  refine asc_ext (asc_pair h1) (rL_pair _ _ _ _) fun q => ?_
  rw [mem_rL]
  constructor
  · intro hq
    obtain ⟨j, hj, e⟩ := List.mem_iff_getElem.1 hq
    obtain ⟨y, e', hy⟩ := hin j hj
    rw [nth_eq hj, e] at e'
    subst e'
    exact ⟨y, hy, (hmem y hy).1 hq, rfl⟩
  · rintro ⟨y, hy, hr, rfl⟩
    exact (hmem y hy).2 hr
section
variable {P W F : List Int} {a b : Int} {S : List Int}
/-- The reference's test. -/
def pgT (P S : List Int) : Bool := decide (0 < S.length) && (ascT S ((P.length : Int) - 1) S.length && (decide (nth S 0 = 0) && okT P S S.length))
theorem pgT_iff : pgT P S = true ↔ 0 < S.length ∧ ascT S ((P.length : Int) - 1) S.length = true ∧ nth S 0 = 0 ∧ okT P S S.length = true := by
  simp only [pgT, Bool.and_eq_true, decide_eq_true_eq]
theorem pgT_eq (h : ArmAB P W F a b) : decide (S ∈ sts P 0) = pgT P S := by
  have hp := h.arm.tree.par
  have hn : 0 < P.length := by have := h.arm.tree.n1; omega
  rw [Bool.eq_iff_iff, decide_eq_true_eq, pgT_iff]
  constructor
  · intro hm
    have he : endB P 0 = false := by
      cases he : endB P 0
      · rfl
      · rw [sts_end he] at hm
        cases hm
    obtain ⟨i, hi, rfl⟩ := (mem_sts hp hn he S).1 hm
    have hat := rL_at (P := P) i 0 P.length
    have hpw := rL_pair P i 0 P.length
    rw [List.pairwise_iff_getElem] at hpw
    have hlt : ∀ u v, u < v → v < (rL P i 0 P.length).length → nth (rL P i 0 P.length) u < nth (rL P i 0 P.length) v := fun u v h1 h2 => by
      rw [nth_eq h2, nth_eq (show u < _ by omega)]
      exact hpw u v _ _ h1
    have hm0 : ((0 : Nat) : Int) ∈ rL P i 0 P.length := mem_rL.2 ⟨0, hn, rch_self, rfl⟩
    obtain ⟨j0, hj0, e0⟩ := List.mem_iff_getElem.1 hm0
    have e0' : nth (rL P i 0 P.length) j0 = 0 := by rw [nth_eq hj0]; exact e0
    have hz : nth (rL P i 0 P.length) 0 = 0 := by
      rcases Nat.eq_zero_or_pos j0 with e | e
      · subst e; exact e0'
      · have h1 := hlt 0 j0 e hj0
        obtain ⟨y, h2, _, _⟩ := hat 0 (by omega)
        omega
    refine ⟨by omega, ascT_iff.2 fun j hj => ?_, hz, okT_iff.2 fun j hj => ?_⟩
    · obtain ⟨y, h1, h2, _⟩ := hat j hj
      exact ⟨by omega, fun h3 => hlt (j - 1) j (by omega) hj⟩
    · obtain ⟨y, h1, h2, h3⟩ := hat j hj
      rw [h1, Int.toNat_natCast]
      rcases Nat.eq_zero_or_pos y with rfl | hy0
      · exact ⟨he, .inl rfl⟩
      · refine ⟨hi y (rch_in h3 (by omega)), .inr ?_⟩
        obtain ⟨p, hpp, hpl⟩ := par_of hp hy0 h2
        rw [rch_step hpp hpl hy0, Bool.and_eq_true] at h3
        rw [hpp, hasI_iff]
        obtain ⟨u, hu, eu⟩ := List.mem_iff_getElem.1 (mem_rL.2 ⟨p, by omega, h3.2, rfl⟩ : (p : Int) ∈ rL P i 0 P.length)
        have eu' : nth (rL P i 0 P.length) u = (p : Int) := by rw [nth_eq hu]; exact eu
        have huj : u < j := by
          rcases Nat.lt_or_ge u j with h4 | h4
          · exact h4
          · rcases Nat.eq_or_lt_of_le h4 with rfl | h5
            · omega
            · have := hlt j u h5 hu
              omega
        rw [List.mem_take_iff_getElem]
        exact ⟨u, by omega, eu⟩
  · rintro ⟨h1, h2, h3, h4⟩
    have hS := ok_rL hp h2 h1 h3 h4
    have he : endB P 0 = false := by
      have := (okT_iff.1 h4 0 h1).1
      rw [h3] at this
      exact this
    rw [mem_sts hp hn he]
    refine ⟨fun z => memB S z && decide (z < P.length), fun z hz => ?_, ?_⟩
    · simp only [Bool.and_eq_true, decide_eq_true_eq] at hz
      obtain ⟨j, hj, e⟩ := List.mem_iff_getElem.1 (hasI_iff.1 hz.1)
      have e' : nth S j = (z : Int) := by rw [nth_eq hj]; exact e
      have := (okT_iff.1 h4 j hj).1
      rw [e', Int.toNat_natCast] at this
      exact this
    · rw [← rL_congr (i := memB S) fun y hy => rch_congr hp hy fun z _ hz _ => by simp only [decide_eq_true (show z < P.length by omega), Bool.and_true]]
      exact hS
theorem pgB_T (h : (armB P W F && discB a b) = true) : pgB P W F a b S = pgT P S := by
  rw [pgB, h, Bool.true_and, pgT_eq (armAB_iff.1 h)]
theorem gnR_congr {i i' : Nat → Bool} {x : Nat} (hr : ∀ y, y < P.length → rch P i x y = rch P i' x y) : gnR P W F a b i x = gnR P W F a b i' x ∧ tmR P W a b i x = tmR P W a b i' x := by
  have e : ∀ v, tot P a i v x = tot P a i' v x := fun v => by
    unfold tot
    exact sN_congr fun y hy => by rw [hr y hy]
  exact ⟨e _, e _⟩
/-- The row of the set's members, when the first k have been laid in. -/
def inS (P S : List Int) (k : Nat) : List Bool := (List.range P.length).map fun (y : Nat) => hasI (S.take k) (y : Int)
theorem inS_len (k : Nat) : (inS P S k).length = P.length := by simp [inS]
theorem inS_zero : inS P S 0 = List.replicate P.length false := by
  apply List.ext_getElem
  · simp [inS]
  · intro i h1 h2
    simp [inS, hasI]
theorem inS_nth {k y : Nat} (hy : y < P.length) : nthB (inS P S k) y = hasI (S.take k) (y : Int) := by simp [nthB, inS, hy]
theorem inS_step {k y : Nat} (hk : k < S.length) (hy : nth S k = (y : Int)) : (inS P S k).set y true = inS P S (k + 1) := by
  apply List.ext_getElem
  · simp [inS]
  · intro i h1 h2
    rw [List.getElem_set]
    simp only [inS, List.getElem_map, List.getElem_range]
    have e : hasI (S.take (k + 1)) (i : Int) = (hasI (S.take k) (i : Int) || decide ((y : Int) = (i : Int))) := by
      rw [List.take_succ_eq_append_getElem hk, ← nth_eq hk, hy]
      unfold hasI
      rw [List.any_append]
      simp only [List.any_cons, List.any_nil, Bool.or_false]
      congr 1
    rw [e]
    by_cases h : y = i
    · subst h
      simp
    · rw [if_neg h, decide_eq_false (by omega), Bool.or_false]
theorem inS_all (h : ArmAB P W F a b) (x : Nat) : gnR P W F a b (nthB (inS P S S.length)) x = gnR P W F a b (memB S) x ∧ tmR P W a b (nthB (inS P S S.length)) x = tmR P W a b (memB S) x :=
  gnR_congr fun y hy => rch_congr h.arm.tree.par hy fun z _ hz _ => by rw [inS_nth (by omega), List.take_length]; rfl
/-- The reference's fractions. -/
theorem pg_spec (h : ArmAB P W F a b) (hT : pgT P S = true) :
    pgF P W F a b S = (cutT (gnR P W F a b (nthB (inS P S S.length)) 0) (unitX P W b 0), cutB (gnR P W F a b (nthB (inS P S S.length)) 0) (unitX P W b 0)) ∧
    pgG P W F a b S = (cutT (tmR P W a b (nthB (inS P S S.length)) 0) (unitX P W b 0), cutB (tmR P W a b (nthB (inS P S S.length)) 0) (unitX P W b 0)) := by
  obtain ⟨h1, h2, h3, h4⟩ := pgT_iff.1 hT
  have hS := ok_rL h.arm.tree.par h2 h1 h3 h4
  have hB : pgB P W F a b S = true := by rw [pgB_T (armAB_iff.2 h)]; exact hT
  have hr := pg_ref h (memB S)
  rw [← hS] at hr
  rw [(pg_yes hB).1, (pg_yes hB).2, (inS_all h 0).1, (inS_all h 0).2]
  exact hr
end

theorem add_nil1 (a : Addr) : a.add 0 = a := by simp [Addr.add]
set_option maxRecDepth 20000 in
set_option maxHeartbeats 1000000 in
theorem l1Rising_c (A : Option Addr) (S : List Int) (c : Nat) (n : Int) (w : World) (hS : Rd w A (ints S)) (hl : S.length ≤ 16777216) :
    Calls Try.prog 57 #[.slice A S.length c, .int .i64 0, .int .i64 n] w (Pure w (.bool (ascT S n S.length))) := by
  go_enter Try.func57, Try.ntmps57
  go_wp2
  go_loopw [7] (fun i wr => ∃ k : Nat, k ≤ S.length ∧ i = .int .i64 (k : Int) ∧ ascT S n k = true ∧ Dr w wr) (fun i _ => S.length - (intOf i).toNat)
  case atStart => exact ⟨0, Nat.zero_le _, rfl, rfl, Dr.refl _⟩
  case round =>
    obtain ⟨k, hk, rfl, ha, hd⟩ := hrel
    obtain ⟨wo, rfl⟩ : ∃ wo : World, wo = wr := ⟨_, rfl⟩
    have HA := Lib.hid ha
    clear ha
    by_cases hlt : k < S.length
    · obtain ⟨a, rfl, hc⟩ := (hS.dr hd).intN hlt
      have j0 : (0 : Int) ≤ (k : Int) := by omega
      have j1 : (k : Int) < (S.length : Int) := by omega
      cases hi : inB (nth S k) 0 n
      · have HN : Hid (ascT S n S.length = false) := Lib.hid (ascT_no (k := k + 1) (by rw [ascT, hi]; simp) (by omega))
        have HI := Lib.hid hi
        clear hi
        go_wp2
        go_quiet ((go_at_call 69; exact qSame (l1In_is _ _ _ _ HI.out _)))
        go_wp2
        go_ret
        exact ⟨by rw [HN.out] <;> rfl, hd.drewN _⟩
      · have HI := Lib.hid hi
        rcases Nat.eq_zero_or_pos k with rfl | hk0
        · have HY : Hid (ascT S n (0 + 1) = true) := Lib.hid (by rw [ascT, HA.out, hi]; rfl)
          have hc0 := hc
          rw [add_nil1] at hc0
          clear hi
          go_wp2
          go_quiet ((go_at_call 69; exact qSame (l1In_is _ _ _ _ HI.out _)))
          go_wp2
          go_roundw
          case rel => exact ⟨1, by omega, by first | rfl | go_num, HY.out, hd.drewN _⟩
          case measure => simp [intOf] <;> omega
        · obtain ⟨a', ea, hc2⟩ := (hS.dr hd).intN (k := k - 1) (by omega)
          injection ea with ea
          subst ea
          have e1 : IntKind.i64.wrap ((k : Int) - 1) = (k : Int) - 1 := IntWalk.i64_in _ (by omega)
          have e2 : ((k : Int) - 1).toNat = k - 1 := by omega
          have e3 : (0 : Int) ≤ (k : Int) - 1 := by omega
          have e4 : (k : Int) - 1 < (S.length : Int) := by omega
          have e5 : (0 : Int) < (k : Int) := by omega
          by_cases hr : nth S (k - 1) < nth S k
          · have HY : Hid (ascT S n (k + 1) = true) := Lib.hid (by rw [ascT, HA.out, hi, decide_eq_true hr]; simp)
            have hr2 : ¬ nth S k ≤ nth S (k - 1) := by omega
            clear hi
            go_wp2
            go_quiet ((go_at_call 69; exact qSame (l1In_is _ _ _ _ HI.out _)))
            clear e1 e2
            go_wp2
            go_roundw
            case rel => exact ⟨k + 1, by omega, by go_num, HY.out, hd.drewN _⟩
            case measure => simp [intOf] <;> omega
          · have HN : Hid (ascT S n S.length = false) := Lib.hid (ascT_no (k := k + 1) (by rw [ascT, decide_eq_false hr, decide_eq_false (show ¬ k = 0 by omega)]; simp) (by omega))
            have hr2 : nth S k ≤ nth S (k - 1) := by omega
            clear hi
            go_wp2
            go_quiet ((go_at_call 69; exact qSame (l1In_is _ _ _ _ HI.out _)))
            go_wp2
            go_ret
            exact ⟨by rw [HN.out] <;> rfl, hd.drewN _⟩
    · obtain rfl : k = S.length := by omega
      go_wp2
      go_ret
      exact ⟨by rw [HA.out] <;> rfl, hd⟩
theorem l1Rising_is (A : Option Addr) (S : List Int) (c : Nat) (n : Int) (q : Bool) (hq : ascT S n S.length = q) (w : World) (hS : Rd w A (ints S)) (hl : S.length ≤ 16777216) :
    Calls Try.prog 57 #[.slice A S.length c, .int .i64 0, .int .i64 n] w (Pure w (.bool q)) := by
  rw [← hq]
  exact l1Rising_c A S c n w hS hl
theorem pgT_1 {P S : List Int} (h : S.length = 0) : pgT P S = false := by rw [pgT, decide_eq_false (by omega)]; rfl
theorem pgT_2 {P S : List Int} (h : ascT S ((P.length : Int) - 1) S.length = false) : pgT P S = false := by rw [pgT, h]; simp
theorem pgT_3 {P S : List Int} (h : nth S 0 ≠ 0) : pgT P S = false := by rw [pgT, decide_eq_false h]; simp
theorem pgT_4 {P S : List Int} (h : okT P S S.length = false) : pgT P S = false := by rw [pgT, h]; simp
set_option maxRecDepth 20000 in
set_option maxHeartbeats 2000000 in
theorem specPg_c (A1 : Option Addr) (P : List Int) (c1 : Nat) (A2 : Option Addr) (W : List Int) (c2 : Nat) (A3 : Option Addr) (F : List Int) (c3 : Nat) (a b : Int) (AS : Option Addr) (S : List Int) (cS : Nat) (w : World) (h : RdM w A1 P A2 W A3 F) (hS : Rd w AS (ints S)) (hSl : S.length ≤ 16777216) :
    Calls Try.prog 8 #[mkV A1 P.length c1 A2 W.length c2 A3 F.length c3, .int .i64 a, .int .i64 b, .slice AS S.length cS] w (Quietly w (.tuple #[.agg #[.int .i64 (pgF P W F a b S).1, .int .i64 (pgF P W F a b S).2], .agg #[.int .i64 (pgG P W F a b S).1, .int .i64 (pgG P W F a b S).2], .bool (pgB P W F a b S)])) := by
  have HB1 : Below w.heap.size w (((w.alloc (.cells #[.slice A1 P.length c1, .slice A2 W.length c2, .slice A3 F.length c3] 28)).alloc (.cells #[.int .i64 0, .int .i64 0] 31)).alloc (.cells #[.int .i64 0, .int .i64 0] 31)) := (((Below.refl _ _).alloc (Nat.le_refl _) _).alloc (by simp) _).alloc (by simp <;> omega) _
  have bx := ((Bx3.new w (.slice A1 P.length c1) (.slice A2 W.length c2) (.slice A3 F.length c3) 28).alloc (.cells #[.int .i64 0, .int .i64 0] 31)).alloc (.cells #[.int .i64 0, .int .i64 0] 31)
  have r8 := (Bx.new (w.alloc (.cells #[.slice A1 P.length c1, .slice A2 W.length c2, .slice A3 F.length c3] 28)) (.int .i64 0) (.int .i64 0) 31).alloc (.cells #[.int .i64 0, .int .i64 0] 31)
  have r9 := Bx.new ((w.alloc (.cells #[.slice A1 P.length c1, .slice A2 W.length c2, .slice A3 F.length c3] 28)).alloc (.cells #[.int .i64 0, .int .i64 0] 31)) (.int .i64 0) (.int .i64 0) 31
  simp only [World.size_alloc] at r8 r9
  have R0 := BeR.mk (w := w) (f := (0, 0)) bx r8 r9 HB1
  clear bx r8 r9
  cases hq : (armB P W F && discB a b)
  · have HQ := Lib.hid (show pgB P W F a b S = false by rw [pgB, hq]; rfl)
    rw [(pg_no HQ.out).1, (pg_no HQ.out).2, HQ.out]
    go_enter Try.func8, Try.ntmps8
    go_wp2_with fail
    generalize (((w.alloc (.cells #[.slice A1 P.length c1, .slice A2 W.length c2, .slice A3 F.length c3] 28)).alloc (.cells #[.int .i64 0, .int .i64 0] 31)).alloc (.cells #[.int .i64 0, .int .i64 0] 31)) = v at *
    refine (l8One_is _ _ _ _ _ _ _ _ _ _ _ _ hq _ (h.below HB1 (Nat.le_refl _))).mono ?_
    rintro e w2 ⟨rfl, b2⟩
    have R := R0.below b2
    obtain ⟨u0, u1, u2, u3, u4⟩ := id R.br
    obtain ⟨t0, t1, t2, t3, t4⟩ := id R.bb
    go_wp2
    exact bodyPost_ret (v := .tuple #[.agg #[.int .i64 0, .int .i64 0], .agg #[.int .i64 0, .int .i64 0], .bool false]) (by simp [results, Try.results8, go_sem, u0, u1, t0, t1]) rfl ⟨rfl, by with_reducible repeat (first | exact R.hb | refine Below.setCell ?_ (by simp <;> omega) _)⟩
  have hk := armAB_iff.1 hq
  have HPT := Lib.hid (pgB_T (S := S) hq)
  have hok := hk.arm
  have hn1 := hok.tree.n1
  have hn2 := hok.tree.n2
  have hn9 := hok.n9
  have hpar := hok.tree.par
  have HFL := Lib.hid hok.len
  have HWL := Lib.hid hok.tree.len
  by_cases h0 : S.length = 0
  · have HQ := Lib.hid (HPT.out.trans (pgT_1 h0))
    have e0 : ((S.length : Int) == 0) = true := by simp; exact List.length_eq_zero_iff.1 h0
    rw [(pg_no HQ.out).1, (pg_no HQ.out).2, HQ.out]
    clear h0
    go_enter Try.func8, Try.ntmps8
    go_wp2_with fail
    generalize (((w.alloc (.cells #[.slice A1 P.length c1, .slice A2 W.length c2, .slice A3 F.length c3] 28)).alloc (.cells #[.int .i64 0, .int .i64 0] 31)).alloc (.cells #[.int .i64 0, .int .i64 0] 31)) = v at *
    refine (l8One_is _ _ _ _ _ _ _ _ _ _ _ _ hq _ (h.below HB1 (Nat.le_refl _))).mono ?_
    rintro e w2 ⟨rfl, b2⟩
    have R := R0.below b2
    obtain ⟨u0, u1, u2, u3, u4⟩ := id R.br
    obtain ⟨t0, t1, t2, t3, t4⟩ := id R.bb
    go_wp2
    exact bodyPost_ret (v := .tuple #[.agg #[.int .i64 0, .int .i64 0], .agg #[.int .i64 0, .int .i64 0], .bool false]) (by simp [results, Try.results8, go_sem, u0, u1, t0, t1]) rfl ⟨rfl, by with_reducible repeat (first | exact R.hb | refine Below.setCell ?_ (by simp <;> omega) _)⟩
  have e0 : ((S.length : Int) == 0) = false := by simp; intro e; exact h0 (by rw [e]; rfl)
  have hS1 : 0 < S.length := by omega
  have ef : IntKind.i64.wrap ((F.length : Int) - 1) = (P.length : Int) - 1 := by rw [HFL.out]; exact IntWalk.i64_in _ (by omega)
  have hfl : (F.length : Int) - 1 = (P.length : Int) - 1 := by rw [HFL.out]
  have HFI := Lib.hid hfl
  have hF1 : 1 ≤ F.length := by rw [HFL.out]; exact hn1
  have hF9 : F.length ≤ 9 := by rw [HFL.out]; exact hn9
  clear h0 ef hfl
  have PRE : ∀ (q : Bool), ascT S ((P.length : Int) - 1) S.length = q → ∀ (Aq : Option Addr) (cq : Nat) (wq : World), Rd wq Aq (ints S) → Calls Try.prog 57 #[.slice Aq S.length cq, .int .i64 0, .int .i64 ((F.length : Int) - 1)] wq (Pure wq (.bool q)) := fun q hq' Aq cq wq hr => by
    rw [HFI.out]
    exact l1Rising_is Aq S cq _ q hq' wq hr hSl
  have HPRE := Lib.hid PRE
  clear PRE
  cases hasc : ascT S ((P.length : Int) - 1) S.length
  · have HQ := Lib.hid (HPT.out.trans (pgT_2 hasc))
    rw [(pg_no HQ.out).1, (pg_no HQ.out).2, HQ.out]
    have HAS := Lib.hid hasc
    clear hasc
    go_enter Try.func8, Try.ntmps8
    go_wp2_with fail
    generalize (((w.alloc (.cells #[.slice A1 P.length c1, .slice A2 W.length c2, .slice A3 F.length c3] 28)).alloc (.cells #[.int .i64 0, .int .i64 0] 31)).alloc (.cells #[.int .i64 0, .int .i64 0] 31)) = v at *
    refine (l8One_is _ _ _ _ _ _ _ _ _ _ _ _ hq _ (h.below HB1 (Nat.le_refl _))).mono ?_
    rintro e w2 ⟨rfl, b2⟩
    have R := R0.below b2
    obtain ⟨f0, f1, f2, fz⟩ := id R.bx
    go_wp2_with fail
    refine (HPRE.out false HAS.out AS cS _ (hS.below R.hb (Nat.le_refl _))).mono ?_
    rintro e w3 ⟨rfl, n3, rfl⟩
    have R := R.below (bDrewN (Below.refl _ _) n3)
    clear f0 f1 f2 fz
    obtain ⟨u0, u1, u2, u3, u4⟩ := id R.br
    obtain ⟨t0, t1, t2, t3, t4⟩ := id R.bb
    go_wp2
    exact bodyPost_ret (v := .tuple #[.agg #[.int .i64 0, .int .i64 0], .agg #[.int .i64 0, .int .i64 0], .bool false]) (by simp [results, Try.results8, go_sem, u0, u1, t0, t1]) rfl ⟨rfl, by with_reducible repeat (first | exact R.hb | refine Below.setCell ?_ (by simp <;> omega) _)⟩
  obtain ⟨aS, rfl, qS0⟩ := hS.intN hS1
  rw [add_nil1] at qS0
  have HAS := Lib.hid hasc
  clear hasc
  by_cases hz : nth S 0 = 0
  · have ez : (nth S 0 != 0) = false := by simp [hz]
    have HZ := Lib.hid hz
    have hfl2 : (F.length : Int) = (P.length : Int) := by rw [HFL.out]
    have HFL2 := Lib.hid hfl2
    clear hz hfl2
    obtain ⟨a2, rfl, _⟩ := h.r2.intN (k := 0) (by rw [HWL.out]; omega)
    obtain ⟨a1, rfl, _⟩ := h.r1.intN (k := 0) (by omega)
    have hin : ∀ j, j < S.length → ∃ y : Nat, nth S j = (y : Int) ∧ y < P.length := fun j hj => by
      have := (ascT_iff.1 HAS.out j hj).1
      exact ⟨(nth S j).toNat, by omega, by omega⟩
    have HIN := Lib.hid hin
    clear hin
    go_enter Try.func8, Try.ntmps8
    go_wp2_with fail
    generalize (((w.alloc (.cells #[.slice (some a1) P.length c1, .slice (some a2) W.length c2, .slice A3 F.length c3] 28)).alloc (.cells #[.int .i64 0, .int .i64 0] 31)).alloc (.cells #[.int .i64 0, .int .i64 0] 31)) = v at *
    refine (l8One_is _ _ _ _ _ _ _ _ _ _ _ _ hq _ (h.below HB1 (Nat.le_refl _))).mono ?_
    rintro e w2 ⟨rfl, b2⟩
    have R := R0.below b2
    clear b2 R0 HB1
    obtain ⟨f0, f1, f2, fz⟩ := id R.bx
    go_wp2_with fail
    refine (HPRE.out true HAS.out (some aS) cS _ (hS.below R.hb (Nat.le_refl _))).mono ?_
    rintro e w3 ⟨rfl, n3, rfl⟩
    have R := R.below (bDrewN (Below.refl _ _) n3)
    clear f0 f1 f2 fz
    obtain ⟨w3, hw3⟩ : ∃ w3, w3 = w2.drewN n3 := ⟨_, rfl⟩
    rw [← hw3] at R ⊢
    clear hw3
    have qS3 := (R.hb.cell (cell_lt qS0)).trans qS0
    obtain ⟨f0, f1, f2, fz⟩ := id R.bx
    go_wp2_with (at_make; refine wp_make_bools _ w3.heap.size rfl rfl _ _ rfl _ _ _ _ P.length rfl rfl (by first | rfl | exact HFL2.out) (by first | rfl | exact HFL2.out) (by omega) ?_; intro w4 ob b4)
    have R4 := R.below b4
    have szz : w.heap.size + 2 < w3.heap.size := R.bb.2.2.2.2
    rw [← inS_zero (S := S)] at ob
    clear R f0 f1 f2 fz b4 qS3
    go_loopw [12] (fun i wr => ∃ k : Nat, k ≤ S.length ∧ i = .int .i64 (k : Int) ∧ okT P S k = true ∧ OwnB wr w3.heap.size (some ⟨w3.heap.size, 0, none⟩) P.length (inS P S k) ∧ BeR w wr (.slice (some a1) P.length c1) (.slice (some a2) W.length c2) (.slice A3 F.length c3) (0, 0)) (fun i _ => S.length - (intOf i).toNat)
    case atStart => exact ⟨0, Nat.zero_le _, rfl, rfl, ob, R4⟩
    case round =>
      clear ob R4
      obtain ⟨k, hkl, rfl, hok', ob, R⟩ := hrel
      obtain ⟨wo, rfl⟩ : ∃ wo : World, wo = wr := ⟨_, rfl⟩
      have HO := Lib.hid hok'
      clear hok'
      obtain ⟨f0, f1, f2, fz⟩ := id R.bx
      by_cases hlt : k < S.length
      · obtain ⟨aq, eq, qS⟩ := (hS.below R.hb (Nat.le_refl _)).intN (k := k) hlt
        injection eq with eq
        subst eq
        obtain ⟨y, ey, hyl⟩ := HIN.out k hlt
        have HY := Lib.hid ey
        rw [ey] at qS
        clear ey
        obtain ⟨aq, eq, qW⟩ := (h.below R.hb (Nat.le_refl _)).r2.intN (k := y) (by rw [HWL.out]; exact hyl)
        injection eq with eq
        subst eq
        obtain ⟨aq, eq, qP⟩ := (h.below R.hb (Nat.le_refl _)).r1.intN (k := y) hyl
        injection eq with eq
        subst eq
        have j0 : (0 : Int) ≤ (y : Int) := by omega
        have j1 : (y : Int) < (W.length : Int) := by rw [HWL.out]; omega
        have j2 : (y : Int) < (P.length : Int) := by omega
        have j3 : y < W.length := by omega
        have hst := ob.set y true
        have oy := ob.cell (k := y) (by rw [inS_len]; exact hyl)
        have ofy := ob.frozen y
        have HSS := Lib.hid (inS_step (P := P) hlt HY.out)
        rw [HSS.out] at hst
        have R5 := R.grown hst.2 szz
        cases hey : endB P y
        · have hwy := wt_in hok hyl hey
          rcases Nat.eq_zero_or_pos y with rfl | hy0
          · have HN : Hid (okT P S (k + 1) = true) := Lib.hid (by rw [okT, HO.out, HY.out]; simp [hey])
            have qW0 := qW
            rw [add_nil1] at qW0
            clear hey
            go_wp2
            go_roundw
            case rel => exact ⟨k + 1, by omega, by go_num, HN.out, hst.1, R5⟩
            case measure => simp [intOf] <;> omega
          · obtain ⟨p, hpp, hpl⟩ := par_of hpar hy0 hyl
            rw [hpp] at qP
            have op := ob.cell (k := p) (by rw [inS_len]; omega)
            rw [inS_nth (by omega)] at op
            have j4 : (0 : Int) < (y : Int) := by omega
            have j5 : (p : Int) < (P.length : Int) := by omega
            cases hQ : hasI (S.take k) (p : Int)
            · rw [hQ] at op
              have HQ : Hid (pgB P W F a b S = false) := Lib.hid (by rw [HPT.out, pgT_4 (okT_no (k := k + 1) (by rw [okT, HY.out, Int.toNat_natCast, hpp, hQ, decide_eq_false (by omega)]; simp) (by omega))])
              clear hey hQ hpp
              obtain ⟨u0, u1, u2, u3, u4⟩ := id R.br
              obtain ⟨t0, t1, t2, t3, t4⟩ := id R.bb
              go_wp2
              exact bodyPost_ret (v := .tuple #[.agg #[.int .i64 0, .int .i64 0], .agg #[.int .i64 0, .int .i64 0], .bool false]) (by simp [results, Try.results8, go_sem, u0, u1, t0, t1]) rfl ⟨by rw [(pg_no HQ.out).1, (pg_no HQ.out).2, HQ.out], by with_reducible repeat (first | exact R.hb | refine Below.setCell ?_ (by simp <;> omega) _)⟩
            · rw [hQ] at op
              have HN : Hid (okT P S (k + 1) = true) := Lib.hid (by rw [okT, HO.out, HY.out, Int.toNat_natCast, hpp, hQ, hey]; simp)
              clear hey hQ hpp
              go_wp2
              go_roundw
              case rel => exact ⟨k + 1, by omega, by go_num, HN.out, hst.1, R5⟩
              case measure => simp [intOf] <;> omega
        · have hwy := wt_end hok hyl hey
          have HQ : Hid (pgB P W F a b S = false) := Lib.hid (by rw [HPT.out, pgT_4 (okT_no (k := k + 1) (by rw [okT, HY.out, Int.toNat_natCast, hey]; simp) (by omega))])
          clear hey
          obtain ⟨u0, u1, u2, u3, u4⟩ := id R.br
          obtain ⟨t0, t1, t2, t3, t4⟩ := id R.bb
          go_wp2
          exact bodyPost_ret (v := .tuple #[.agg #[.int .i64 0, .int .i64 0], .agg #[.int .i64 0, .int .i64 0], .bool false]) (by simp [results, Try.results8, go_sem, u0, u1, t0, t1]) rfl ⟨by rw [(pg_no HQ.out).1, (pg_no HQ.out).2, HQ.out], by with_reducible repeat (first | exact R.hb | refine Below.setCell ?_ (by simp <;> omega) _)⟩
      · obtain rfl : k = S.length := by omega
        have HT : Hid (pgT P S = true) := Lib.hid (pgT_iff.2 ⟨hS1, HAS.out, HZ.out, HO.out⟩)
        have HQ := Lib.hid (HPT.out.trans HT.out)
        have HSP := Lib.hid (pg_spec hk HT.out)
        have gnB := gnR_bd hk (nthB (inS P S S.length)) 0
        have tmB := tmR_bd hk (nthB (inS P S S.length)) 0
        have hb0 := hk.b0
        have hb4 := hk.b4
        have un1 := unitX_pos hok (b := b) (by have := hk.a1; have := hk.ab; omega) (show 0 < P.length by omega)
        have un2 := unitX_46 hok hb0 hb4 (show 0 < P.length by omega)
        go_wp2_with fail
        refine (l8Pair_c (some a1) P c1 (some a2) W c2 A3 F c3 a b hk w3.heap.size P.length w3.heap.size (inS P S S.length) (inS_len _) P.length 0 _ (by omega) (by omega) (h.below R.hb (Nat.le_refl _)) ob).mono ?_
        rintro e w5 ⟨rfl, b5⟩
        have bp := Bx.new w5 (.int .i64 (gnR P W F a b (nthB (inS P S S.length)) 0)) (.int .i64 (tmR P W a b (nthB (inS P S S.length)) 0)) 31
        have R6 := (R.below b5).below ((Below.refl _ _).alloc (Nat.le_refl _) (.cells #[.int .i64 (gnR P W F a b (nthB (inS P S S.length)) 0), .int .i64 (tmR P W a b (nthB (inS P S S.length)) 0)] 31))
        obtain ⟨e0', e1', e2', e3'⟩ := (R.below b5).bx
        clear R f0 f1 f2 fz b5 ob
        go_wp2_with fail
        refine (l8Units_c (some a1) P c1 (some a2) W c2 A3 F c3 b _ (h.below R6.hb (Nat.le_refl _)).r1 (h.below R6.hb (Nat.le_refl _)).r2 hok hb0 hb4 _).mono ?_
        rintro e w7 ⟨Au, cu, rfl, ou, b7⟩
        have R7 := R6.below b7
        have bp7 := bp.below b7
        have HUL := Lib.hid (unitL_length P W b)
        obtain ⟨gu, rfl, hgu, hgu2⟩ := ou.form (by rw [HUL.out]; omega)
        have qu := ou.cellN (k := 0) (by rw [HUL.out]; omega)
        rw [unitL_nth (by omega)] at qu
        clear R6 bp e0' e1' e2' e3' b7 ou
        generalize gnR P W F a b (nthB (inS P S S.length)) 0 = gn at *
        generalize tmR P W a b (nthB (inS P S S.length)) 0 = tm at *
        generalize unitX P W b 0 = un at *
        go_upto_region 13 with fail
        obtain ⟨p0, p1, p2, p3, p4⟩ := id bp7
        have hd1 : Below w7.heap.size w7 w7.drew := Below.drew (Below.refl _ _)
        have SK1 : Hid (∀ w', Below w7.heap.size w7 w' → w'.cell? ⟨w5.heap.size, 0, none⟩ = some (.int .i64 gn) ∧ w'.cell? ⟨w5.heap.size, 1, none⟩ = some (.int .i64 tm)) := Lib.hid fun w' HV => ⟨(HV.cell (p := ⟨w5.heap.size, 0, none⟩) p4).trans p0, (HV.cell (p := ⟨w5.heap.size, 1, none⟩) p4).trans p1⟩
        clear p0 p1 p2 p3 qu
        have hS1_0 := SK1.out _ hd1
        refine tamed_region (S := fun w' => w'.cell? ⟨w5.heap.size, 0, none⟩ = some (.int .i64 gn) ∧ w'.cell? ⟨w5.heap.size, 1, none⟩ = some (.int .i64 tm)) (fun k => k == 8 || k == 9 || k == 10) (by kernel_rfl) ?_
        refine tame0 (k := 0) ?_ rfl (by kernel_rfl) (by kernel_rfl) (by kernel_rfl) (fun _ _ _ h => h) (by kernel_rfl) (fun v => ?_) ?_
        rotate_left
        · (go_simp; all_goals rfl)
        simp only [Act.put, List.setIfInBounds_toArray]
        refine tameT (k := 1) ?_ rfl (by kernel_rfl) (by kernel_rfl) (by kernel_rfl) (by kernel_rfl) (by kernel_rfl) (fun _ _ _ h => h) (by kernel_rfl) hS1_0 (fun v hv => ?_) ?_
        rotate_left
        · (obtain ⟨k1, k2⟩ := hv; go_simp; all_goals rfl)
        simp only [Act.put]
        refine tame0 (k := 2) ?_ rfl (by kernel_rfl) (by kernel_rfl) (by kernel_rfl) (fun _ _ _ h => h) (by kernel_rfl) (fun v => ?_) ?_
        rotate_left
        · (go_simp; all_goals rfl)
        simp only [Act.put]
        refine tame0 (k := 4) ?_ rfl (by kernel_rfl) (by kernel_rfl) (by kernel_rfl) (fun _ _ _ h => h) (by kernel_rfl) (fun v => ?_) ?_
        rotate_left
        · (go_simp; all_goals rfl)
        simp only [Act.put]
        refine tameT (k := 5) ?_ rfl (by kernel_rfl) (by kernel_rfl) (by kernel_rfl) (by kernel_rfl) (by kernel_rfl) (fun _ _ _ h => h) (by kernel_rfl) hS1_0 (fun v hv => ?_) ?_
        rotate_left
        · (obtain ⟨k1, k2⟩ := hv; go_simp; all_goals rfl)
        simp only [Act.put]
        refine tame0 (k := 6) ?_ rfl (by kernel_rfl) (by kernel_rfl) (by kernel_rfl) (fun _ _ _ h => h) (by kernel_rfl) (fun v => ?_) ?_
        rotate_left
        · (go_simp; all_goals rfl)
        simp only [Act.put]
        refine tame_one (k := 3) (by kernel_rfl) rfl (by kernel_rfl) ?_
        go_simp
        refine (l2Cut_c _ _ (by omega) (by omega) (by omega) (by omega) _).mono ?_
        rintro e w8 ⟨rfl, b8⟩
        have hd1_1 := bUp hd1 b8 (Nat.le_refl _)
        have hS1_1 := Lib.hid (SK1.out _ hd1_1)
        refine ⟨by first | exact hS1_1 | exact Hid.out hS1_1, ?_⟩
        refine tame_one (k := 7) (by kernel_rfl) rfl (by kernel_rfl) ?_
        go_simp
        refine (l2Cut_c _ _ (by omega) (by omega) (by omega) (by omega) _).mono ?_
        rintro e w9 ⟨rfl, b9⟩
        have hd1_2 := bUp hd1_1 b9 hd1_1.size
        have hS1_2 := Lib.hid (SK1.out _ hd1_2)
        refine ⟨by first | exact hS1_2 | exact Hid.out hS1_2, ?_⟩
        have R9 := (R7.below ((Below.drew (Below.refl w7.heap.size w7)).trans b8)).below b9
        obtain ⟨u0, u1, u2, u3, u4⟩ := id R9.br
        obtain ⟨t0, t1, t2, t3, t4⟩ := id R9.bb
        have HB9 := R9.hb
        generalize cutT gn un = x1 at *
        generalize cutB gn un = x2 at *
        generalize cutT tm un = y1 at *
        generalize cutB tm un = y2 at *
        refine tame_one (k := 8) (by kernel_rfl) rfl (by kernel_rfl) ?_
        go_simp
        try (refine ⟨fun h => absurd h (by decide), ?_⟩)
        refine tame_one (k := 9) (by kernel_rfl) rfl (by kernel_rfl) ?_
        go_simp
        try (refine ⟨fun h => absurd h (by decide), ?_⟩)
        refine tame_one (k := 10) (by kernel_rfl) rfl (by kernel_rfl) ?_
        go_simp
        try (refine ⟨fun h => absurd h (by decide), ?_⟩)
        refine tame_end (by kernel_rfl) ?_
        go_wp2
        exact bodyPost_ret (v := .tuple #[.agg #[.int .i64 x1, .int .i64 x2], .agg #[.int .i64 y1, .int .i64 y2], .bool true]) (by simp [results, Try.results8, go_sem, u0, u1, t0, t1]) rfl ⟨by rw [HSP.out.1, HSP.out.2, HQ.out], by with_reducible repeat (first | exact HB9 | refine Below.setCell ?_ (by simp <;> omega) _)⟩
  · have HQ := Lib.hid (HPT.out.trans (pgT_3 hz))
    rw [(pg_no HQ.out).1, (pg_no HQ.out).2, HQ.out]
    have ez : (nth S 0 != 0) = true := by simp [hz]
    clear hz
    go_enter Try.func8, Try.ntmps8
    go_wp2_with fail
    generalize (((w.alloc (.cells #[.slice A1 P.length c1, .slice A2 W.length c2, .slice A3 F.length c3] 28)).alloc (.cells #[.int .i64 0, .int .i64 0] 31)).alloc (.cells #[.int .i64 0, .int .i64 0] 31)) = v at *
    refine (l8One_is _ _ _ _ _ _ _ _ _ _ _ _ hq _ (h.below HB1 (Nat.le_refl _))).mono ?_
    rintro e w2 ⟨rfl, b2⟩
    have R := R0.below b2
    obtain ⟨f0, f1, f2, fz⟩ := id R.bx
    go_wp2_with fail
    refine (HPRE.out true HAS.out (some aS) cS _ (hS.below R.hb (Nat.le_refl _))).mono ?_
    rintro e w3 ⟨rfl, n3, rfl⟩
    have R := R.below (bDrewN (Below.refl _ _) n3)
    have qS3 := (R.hb.cell (cell_lt qS0)).trans qS0
    clear f0 f1 f2 fz
    obtain ⟨u0, u1, u2, u3, u4⟩ := id R.br
    obtain ⟨t0, t1, t2, t3, t4⟩ := id R.bb
    go_wp2
    exact bodyPost_ret (v := .tuple #[.agg #[.int .i64 0, .int .i64 0], .agg #[.int .i64 0, .int .i64 0], .bool false]) (by simp [results, Try.results8, go_sem, u0, u1, t0, t1]) rfl ⟨rfl, by with_reducible repeat (first | exact R.hb | refine Below.setCell ?_ (by simp <;> omega) _)⟩

end Go.Proofs.Ytfobjkdkjlbkfaa
