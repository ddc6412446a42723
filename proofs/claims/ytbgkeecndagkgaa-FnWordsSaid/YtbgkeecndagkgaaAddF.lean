/- The program's addition of two fractions. -/
import Derived.Test.YtbgkeecndagkgaaFrac
import Derived.Test.YtbgkeecndagkgaaPairs
import Derived.Test.YtbgkeecndagkgaaVw
import Derived.Test.YtbgkeecndagkgaaButA
import Derived.Deep.DeepCutAuto
namespace Go.Proofs.Ytbgkeecndagkgaa
open Go.RowKit

theorem isFr_3 (a b : Int) (h1 : inB a (-1000000000) 1000000000 = true) (h2 : inB b 1 1000000 = true) (w : World) :
    Calls Try.prog 57 #[.agg #[.int .i64 a, .int .i64 b]] w fun e w' => e = .returned (.bool (fracB a b)) ∧ Below w.heap.size w w' := by
  have b1 := inB_iff.1 h1
  have b2 := inB_iff.1 h2
  have HF : Hid (fracB a b = (gI a b == 1)) := Lib.hid (by rw [fracB_3 h1 h2, gI_abs])
  go_enter Try.func57, Try.ntmps57
  go_wp2_with (first
    | (go_at_call 26; refine (within_is _ _ _ _ (by assumption) _).mono ?_; rintro e w' ⟨rfl, rfl⟩)
    | (go_at_call 53; refine (commonDivisor_c a b (by omega) (by omega) (by omega) (by omega) _).mono ?_; rintro e w' ⟨rfl, n, rfl⟩))
  go_ret
  exact ⟨by rw [HF.out]; rfl, (by with_reducible repeat (first | exact Below.refl _ _ | refine Below.drew ?_ | refine bDrewN ?_ _ | refine Below.setCell ?_ (by simp) _ | refine Below.alloc ?_ (by simp) _))⟩
theorem isFr_2 (a b : Int) (h1 : inB a (-1000000000) 1000000000 = true) (h2 : inB b 1 1000000 = false) (w : World) :
    Calls Try.prog 57 #[.agg #[.int .i64 a, .int .i64 b]] w fun e w' => e = .returned (.bool (fracB a b)) ∧ Below w.heap.size w w' := by
  have HF := Lib.hid (fracB_2 (a := a) h2)
  go_enter Try.func57, Try.ntmps57
  go_wp2_with (go_at_call 26; refine (within_is _ _ _ _ (by assumption) _).mono ?_; rintro e w' ⟨rfl, rfl⟩)
  go_ret
  exact ⟨by rw [HF.out]; rfl, (by with_reducible repeat (first | exact Below.refl _ _ | refine Below.drew ?_ | refine bDrewN ?_ _ | refine Below.setCell ?_ (by simp) _ | refine Below.alloc ?_ (by simp) _))⟩
theorem isFr_1 (a b : Int) (h1 : inB a (-1000000000) 1000000000 = false) (w : World) :
    Calls Try.prog 57 #[.agg #[.int .i64 a, .int .i64 b]] w fun e w' => e = .returned (.bool (fracB a b)) ∧ Below w.heap.size w w' := by
  have HF := Lib.hid (fracB_1 (b := b) h1)
  go_enter Try.func57, Try.ntmps57
  go_wp2_with (go_at_call 26; refine (within_is _ _ _ _ (by assumption) _).mono ?_; rintro e w' ⟨rfl, rfl⟩)
  go_ret
  exact ⟨by rw [HF.out]; rfl, (by with_reducible repeat (first | exact Below.refl _ _ | refine Below.drew ?_ | refine bDrewN ?_ _ | refine Below.setCell ?_ (by simp) _ | refine Below.alloc ?_ (by simp) _))⟩
theorem isFr_c (a b : Int) (w : World) :
    Calls Try.prog 57 #[.agg #[.int .i64 a, .int .i64 b]] w fun e w' => e = .returned (.bool (fracB a b)) ∧ Below w.heap.size w w' := by
  cases h1 : inB a (-1000000000) 1000000000 with
  | false => exact isFr_1 a b h1 w
  | true =>
    cases h2 : inB b 1 1000000 with
    | false => exact isFr_2 a b h1 h2 w
    | true => exact isFr_3 a b h1 h2 w
theorem isFr_is (a b : Int) (q : Bool) (h : fracB a b = q) (w : World) :
    Calls Try.prog 57 #[.agg #[.int .i64 a, .int .i64 b]] w fun e w' => e = .returned (.bool q) ∧ Below w.heap.size w w' := by
  rw [← h]
  exact isFr_c a b w
set_option maxRecDepth 20000 in
set_option maxHeartbeats 2000000 in
theorem areFr_c (A : Option Addr) (ps : List (Int × Int)) (c : Nat) (w : World) (ha : Rd w A (pcells ps)) (hl : ps.length ≤ 100) :
    Calls Try.prog 46 #[.slice A ps.length c] w fun e w' => e = .returned (.bool (decide (∀ k, k < ps.length → fracB (pT ps k) (pB ps k) = true))) ∧ Below w.heap.size w w' := by
  go_enter Try.func46, Try.ntmps46
  go_wp2_with fail
  go_loopw [7] (fun i wr => ∃ k : Nat, k ≤ ps.length ∧ i = .int .i64 k ∧ (∀ j, j < k → fracB (pT ps j) (pB ps j) = true) ∧ Below w.heap.size w wr) (fun i _ => ps.length - (intOf i).toNat)
  case atStart => exact ⟨0, by omega, rfl, fun j h => by omega, Below.refl _ _⟩
  case round =>
    obtain ⟨v, rfl⟩ : ∃ v : World, v = wr := ⟨_, rfl⟩
    obtain ⟨k, hk, rfl, hall, HB⟩ := hrel
    have HA := Lib.hid hall
    clear hall
    by_cases hlt : k < ps.length
    · obtain ⟨y0, y1⟩ := pcells_get ps k hlt
      have rV := ha.below HB (Nat.le_refl _)
      obtain ⟨ad, rfl, q1⟩ := rV _ _ y0
      obtain ⟨_, e, q2⟩ := rV _ _ y1
      injection e with e
      subst e
      have ik : (k : Int) < (ps.length : Int) := by omega
      have q2' := pairOff 1 (by omega) q2
      clear q2 y0 y1 rV
      have bl : Below v.heap.size v (v.alloc (.cells #[.int .i64 (pT ps k), .int .i64 (pB ps k)] 35)) := (Below.refl _ _).alloc (Nat.le_refl _) _
      cases hf : fracB (pT ps k) (pB ps k)
      · have HD : Hid (decide (∀ k, k < ps.length → fracB (pT ps k) (pB ps k) = true) = false) := Lib.hid (decide_eq_false fun h => by have := h k hlt; rw [hf] at this; cases this)
        go_wp2_with fail
        refine (isFr_is _ _ _ hf _).mono ?_
        rintro e w2 ⟨rfl, b2⟩
        go_wp2_with fail
        go_ret
        exact ⟨by rw [HD.out] <;> rfl, bUp HB (bUp bl b2 bl.size) HB.size⟩
      · go_wp2_with fail
        refine (isFr_is _ _ _ hf _).mono ?_
        rintro e w2 ⟨rfl, b2⟩
        have HF := Lib.hid hf
        clear hf
        go_wp2_with fail
        go_roundw
        case rel => exact ⟨k + 1, by omega, by go_num, fun j hj => by
          rcases Nat.lt_or_ge j k with h | h
          · exact HA.out j h
          · obtain rfl : j = k := by omega
            exact HF.out, bUp HB (bUp bl b2 bl.size) HB.size⟩
        case measure => simp [intOf] <;> omega
    · obtain rfl : k = ps.length := by omega
      have HD : Hid (decide (∀ k, k < ps.length → fracB (pT ps k) (pB ps k) = true) = true) := Lib.hid (decide_eq_true HA.out)
      go_wp2_with fail
      go_ret
      exact ⟨by rw [HD.out] <;> rfl, HB⟩
theorem two_frac (a b c d : Int) : decide (∀ k, k < [(a, b), (c, d)].length → fracB (pT [(a, b), (c, d)] k) (pB [(a, b), (c, d)] k) = true) = (fracB a b && fracB c d) := by
  cases h1 : fracB a b
  · exact decide_eq_false fun h => by have := h 0 (by simp); simp [pT, pB, h1] at this
  · cases h2 : fracB c d
    · exact decide_eq_false fun h => by have := h 1 (by simp); simp [pT, pB, h2] at this
    · refine decide_eq_true fun k hk => ?_
      rcases k with _ | _ | k
      · simpa [pT, pB] using h1
      · simpa [pT, pB] using h2
      · simp at hk; omega
theorem areFr2_c (g c : Nat) (a b x y : Int) (w : World) (q : Bool) (h : (fracB a b && fracB x y) = q) (ha : Rd w (some ⟨g, 0, none⟩) (pcells [(a, b), (x, y)])) :
    Calls Try.prog 46 #[.slice (some ⟨g, 0, none⟩) 2 c] w fun e w' => e = .returned (.bool q) ∧ Below w.heap.size w w' := by
  rw [← h, ← two_frac]
  exact areFr_c _ [(a, b), (x, y)] c w ha (by simp)
theorem areFr3_c (a b x y : Int) (w : World) (q : Bool) (h : (fracB a b && fracB x y) = q) :
    Calls Try.prog 46 #[.slice (some ⟨w.heap.size + 1 + 1 + 1, 0, none⟩) 2 2] ((((w.alloc (.cells #[.int .i64 a, .int .i64 b] 35)).alloc (.cells #[.int .i64 x, .int .i64 y] 35)).alloc (.cells #[.int .i64 0, .int .i64 0] 35)).alloc (.cells #[.int .i64 a, .int .i64 b, .int .i64 x, .int .i64 y] 35))
      fun e w' => e = .returned (.bool q) ∧ Below (w.heap.size + 1 + 1 + 1 + 1) ((((w.alloc (.cells #[.int .i64 a, .int .i64 b] 35)).alloc (.cells #[.int .i64 x, .int .i64 y] 35)).alloc (.cells #[.int .i64 0, .int .i64 0] 35)).alloc (.cells #[.int .i64 a, .int .i64 b, .int .i64 x, .int .i64 y] 35)) w' := by
  have h1 := Rd.of_own (OwnP.lit (((w.alloc (.cells #[.int .i64 a, .int .i64 b] 35)).alloc (.cells #[.int .i64 x, .int .i64 y] 35)).alloc (.cells #[.int .i64 0, .int .i64 0] 35)) [(a, b), (x, y)] (by simp))
  have h2 := areFr2_c _ 2 a b x y _ q h h1
  simpa [pcells] using h2
set_option maxRecDepth 20000 in
set_option maxHeartbeats 2000000 in
theorem addFr_no (a b x y : Int) (w : World) (h : (fracB a b && fracB x y) = false) :
    Calls Try.prog 20 #[.agg #[.int .i64 a, .int .i64 b], .agg #[.int .i64 x, .int .i64 y]] w fun e w' => e = .returned (.tuple #[.agg #[.int .i64 0, .int .i64 0], .bool false]) ∧ Below w.heap.size w w' := by
  go_enter Try.func20, Try.ntmps20
  go_wp2_with fail
  refine (areFr3_c a b x y w _ h).mono ?_
  rintro e w1 ⟨rfl, hb1⟩
  have hc : ∀ b o, b < w.heap.size + 1 + 1 + 1 + 1 → w1.cell? ⟨b, o, none⟩ = _ := fun b o hl => hb1.cell (p := ⟨b, o, none⟩) hl
  have hf : ∀ b o, b < w.heap.size + 1 + 1 + 1 + 1 → w1.frozen? ⟨b, o, none⟩ = _ := fun b o hl => hb1.frozen (p := ⟨b, o, none⟩) hl
  have hz := hb1.size
  simp at hz
  have HB0 : Below w.heap.size w w1 := ((((Below.refl _ _).alloc (Nat.le_refl _) _).alloc (by simp) _).alloc (by simp; omega) _).alloc (by simp; omega) _ |>.trans (hb1.mono (by omega))
  go_wp2_with fail
  exact bodyPost_ret (v := .tuple #[.agg #[.int .i64 0, .int .i64 0], .bool false]) (by simp [results, Try.results20, go_sem, hc]) rfl ⟨rfl, (by with_reducible repeat (first | exact HB0 | refine Below.setCell ?_ (by first | (simp; done) | (simp; omega)) _))⟩
set_option maxRecDepth 20000 in
set_option maxHeartbeats 4000000 in
theorem addFr_sp (a b x y : Int) (w : World) (h1 : fracB a b = true) (h2 : fracB x y = true) (S P : Int) (HS : Hid (a * y + x * b = S)) (HP : Hid (b * y = P)) :
    Calls Try.prog 20 #[.agg #[.int .i64 a, .int .i64 b], .agg #[.int .i64 x, .int .i64 y]] w fun e w' => e = .returned (.tuple #[.agg #[.int .i64 (lwT S P), .int .i64 (lwB S P)], .bool (lwOk S P)]) ∧ Below w.heap.size w w' := by
  have h12 : (fracB a b && fracB x y) = true := by rw [h1, h2]; rfl
  obtain ⟨s1, s2, s3, s4, s5, s6, s7, s8⟩ : (-1000000000000000 ≤ a * y ∧ a * y ≤ 1000000000000000) ∧ (-1000000000000000 ≤ x * b ∧ x * b ≤ 1000000000000000) ∧ 0 < b * y ∧ b * y ≤ 1000000000000 ∧ 0 < b ∧ b ≤ 1000000 ∧ 0 < y ∧ y ≤ 1000000 := by
    simp only [fracB, Bool.and_eq_true, inB_iff] at h1 h2
    have m1 := mulA_bd (A := 1000000000) (B := 1000000) h1.1.1.1 h1.1.1.2 (y := y) (by omega) (by omega) (by decide)
    have m2 := mulA_bd (A := 1000000000) (B := 1000000) h2.1.1.1 h2.1.1.2 (y := b) (by omega) (by omega) (by decide)
    have m3 := mulA_bd (A := 1000000) (B := 1000000) (x := b) (by omega) (by omega) (y := y) (by omega) (by omega) (by decide)
    have m4 := Int.mul_pos (show 0 < b by omega) (show 0 < y by omega)
    exact ⟨by omega, by omega, m4, by omega, by omega, by omega, by omega, by omega⟩
  have e1 : IntKind.i64.wrap (a * y) = a * y := IntWalk.i64_in _ (by omega)
  have e2 : IntKind.i64.wrap (x * b) = x * b := IntWalk.i64_in _ (by omega)
  have e3 : IntKind.i64.wrap (b * y) = P := by rw [HP.out]; exact IntWalk.i64_in _ (by rw [← HP.out]; omega)
  have e4 : IntKind.i64.wrap (a * y + x * b) = S := by rw [HS.out]; exact IntWalk.i64_in _ (by rw [← HS.out]; omega)
  have s9 : -2000000000000000 ≤ S ∧ S ≤ 2000000000000000 := by rw [← HS.out]; omega
  have s3' : 0 < P := by rw [← HP.out]; exact s3
  have s4' : P ≤ 1000000000000 := by rw [← HP.out]; exact s4
  clear h1 h2
  go_enter Try.func20, Try.ntmps20
  go_wp2_with fail
  refine (areFr3_c a b x y w _ h12).mono ?_
  rintro e w1 ⟨rfl, hb1⟩
  have hc : ∀ b o, b < w.heap.size + 1 + 1 + 1 + 1 → w1.cell? ⟨b, o, none⟩ = _ := fun b o hl => hb1.cell (p := ⟨b, o, none⟩) hl
  have hf : ∀ b o, b < w.heap.size + 1 + 1 + 1 + 1 → w1.frozen? ⟨b, o, none⟩ = _ := fun b o hl => hb1.frozen (p := ⟨b, o, none⟩) hl
  have hz := hb1.size
  simp at hz
  have HB0 : Below w.heap.size w w1 := ((((Below.refl _ _).alloc (Nat.le_refl _) _).alloc (by simp) _).alloc (by simp; omega) _).alloc (by simp; omega) _ |>.trans (hb1.mono (by omega))
  go_wp2_with fail
  refine (lowest_c S P (by omega) (by omega) (by omega) (by omega) _).mono ?_
  rintro e w2 ⟨rfl, hb2⟩
  have k0 : w2.cell? ⟨w.heap.size + 1 + 1, 0, none⟩ = some (.int .i64 0) := (hb2.cell (p := ⟨w.heap.size + 1 + 1, 0, none⟩) (show w.heap.size + 1 + 1 < _ by omega)).trans ((hc _ _ (by omega)).trans (by simp [go_sem]))
  have k1 : w2.cell? ⟨w.heap.size + 1 + 1, 1, none⟩ = some (.int .i64 0) := (hb2.cell (p := ⟨w.heap.size + 1 + 1, 1, none⟩) (show w.heap.size + 1 + 1 < _ by omega)).trans ((hc _ _ (by omega)).trans (by simp [go_sem]))
  have k2 : w2.frozen? ⟨w.heap.size + 1 + 1, 0, none⟩ = false := (hb2.frozen (p := ⟨w.heap.size + 1 + 1, 0, none⟩) (show w.heap.size + 1 + 1 < _ by omega)).trans ((hf _ _ (by omega)).trans (by simp [go_sem]))
  have k3 : w2.frozen? ⟨w.heap.size + 1 + 1, 1, none⟩ = false := (hb2.frozen (p := ⟨w.heap.size + 1 + 1, 1, none⟩) (show w.heap.size + 1 + 1 < _ by omega)).trans ((hf _ _ (by omega)).trans (by simp [go_sem]))
  have hz2 := hb2.size
  have HB1 := bUp HB0 hb2 HB0.size
  go_wp2_with fail
  exact bodyPost_ret (v := .tuple #[.agg #[.int .i64 (lwT S P), .int .i64 (lwB S P)], .bool (lwOk S P)]) (by simp [results, Try.results20, go_sem, k0, k1]) rfl ⟨rfl, (by with_reducible repeat (first | exact HB1 | refine Below.setCell ?_ (by first | (simp; done) | (simp; omega)) _))⟩
theorem addFr_yes (a b x y : Int) (w : World) (h1 : fracB a b = true) (h2 : fracB x y = true) :
    Calls Try.prog 20 #[.agg #[.int .i64 a, .int .i64 b], .agg #[.int .i64 x, .int .i64 y]] w fun e w' => e = .returned (.tuple #[.agg #[.int .i64 (lwT (a * y + x * b) (b * y)), .int .i64 (lwB (a * y + x * b) (b * y))], .bool (lwOk (a * y + x * b) (b * y))]) ∧ Below w.heap.size w w' :=
  addFr_sp a b x y w h1 h2 _ _ (Lib.hid rfl) (Lib.hid rfl)
end Go.Proofs.Ytbgkeecndagkgaa
