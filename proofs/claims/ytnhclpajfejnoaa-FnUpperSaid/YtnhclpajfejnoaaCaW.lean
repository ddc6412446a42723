/- ShareClaims, CallClaims, PutClaims: both. (Written by gen_caw.py.) -/
import Derived.Test.YtnhclpajfejnoaaCaL
import Derived.Test.YtnhclpajfejnoaaMktW
import Derived.Test.YtnhclpajfejnoaaLaws
import Derived.Test.YtnhclpajfejnoaaButA
import Derived.WalkLawsBesides
import Derived.Deep.DeepCutAuto
namespace Go.Proofs.Ytnhclpajfejnoaa
open Go.RowKit

theorem ca_1 {P W F : List Int} {k : Int} {g : Int → Int} (h : mktB P W F = false) : caV P W F k g = [] ∧ caB P W F k = false := by simp [caV, caB, h]
theorem ca_2 {P W F : List Int} {k : Int} {g : Int → Int} (h : inB k 0 20 = false) : caV P W F k g = [] ∧ caB P W F k = false := by simp [caV, caB, h]
theorem ca_3 {P W F : List Int} {k : Int} {g : Int → Int} (h1 : mktB P W F = true) (h2 : inB k 0 20 = true) : caV P W F k g = clmBy P F g ∧ caB P W F k = true := by simp [caV, caB, h1, h2]
theorem mx_call (k p : Int) : mxI (p - k) 0 = callC k p := by unfold mxI callC; split <;> split <;> omega
theorem mx_put (k p : Int) : mxI (k - p) 0 = putC k p := by unfold mxI putC; split <;> split <;> omega
set_option maxRecDepth 20000 in
theorem closCall_c (gk : Nat) (k p : Int) (w : World) (hk : w.cell? ⟨gk, 0, none⟩ = some (.int .i64 k)) (h1 : 0 ≤ k ∧ k ≤ 20) (h2 : 0 ≤ p ∧ p ≤ 20) :
    Calls Try.prog 62 #[.int .i64 p, .pointer (some ⟨gk, 0, none⟩)] w fun e w' => e = .returned (.int .i64 (callC k p)) ∧ Dr w w' := by
  have hw : IntKind.i64.wrap (p - k) = p - k := IntWalk.i64_in _ (by omega)
  by_cases h : 0 < p - k
  · have hg : Hid (callC k p = p - k) := Lib.hid (if_pos (by omega))
    rw [hg.out]
    go_enter Try.func62, Try.ntmps62
    go_wp2_with fail
    go_ret
    exact ⟨rfl, by first | exact Dr.refl _ | exact (Dr.refl _).drew⟩
  · have hg : Hid (callC k p = 0) := Lib.hid (if_neg (by omega))
    rw [hg.out]
    go_enter Try.func62, Try.ntmps62
    go_wp2_with fail
    go_ret
    exact ⟨rfl, by first | exact Dr.refl _ | exact (Dr.refl _).drew⟩
set_option maxRecDepth 20000 in
theorem closPut_c (gk : Nat) (k p : Int) (w : World) (hk : w.cell? ⟨gk, 0, none⟩ = some (.int .i64 k)) (h1 : 0 ≤ k ∧ k ≤ 20) (h2 : 0 ≤ p ∧ p ≤ 20) :
    Calls Try.prog 67 #[.int .i64 p, .pointer (some ⟨gk, 0, none⟩)] w fun e w' => e = .returned (.int .i64 (putC k p)) ∧ Dr w w' := by
  have hw : IntKind.i64.wrap (k - p) = k - p := IntWalk.i64_in _ (by omega)
  by_cases h : 0 < k - p
  · have hg : Hid (putC k p = k - p) := Lib.hid (if_pos (by omega))
    rw [hg.out]
    go_enter Try.func67, Try.ntmps67
    go_wp2_with fail
    go_ret
    exact ⟨rfl, by first | exact Dr.refl _ | exact (Dr.refl _).drew⟩
  · have hg : Hid (putC k p = 0) := Lib.hid (if_neg (by omega))
    rw [hg.out]
    go_enter Try.func67, Try.ntmps67
    go_wp2_with fail
    go_ret
    exact ⟨rfl, by first | exact Dr.refl _ | exact (Dr.refl _).drew⟩
set_option maxRecDepth 20000 in
theorem closShare_c (p : Int) (w : World) : Calls Try.prog 68 #[.int .i64 p] w fun e w' => e = .returned (.int .i64 (shareC p)) ∧ Dr w w' := by
  go_enter Try.func68, Try.ntmps68
  go_wp2_with fail
  go_ret
  exact ⟨rfl, by first | exact Dr.refl _ | exact (Dr.refl _).drew⟩
theorem ne_row2 {A B : Option Addr} (h : ∀ b, blk A = some b → blk B ≠ some b) : B = none ∨ blk B ≠ blk A := by
  rcases B with _ | a
  · exact .inl rfl
  · right; intro e; exact h a.block e.symm rfl
theorem Bx3.dr_ {W W' : World} {g : Nat} {x y z : Value} (h : Bx3 W g x y z) (hd : Dr W W') : Bx3 W' g x y z := by
  obtain ⟨n, rfl⟩ := hd
  exact h.drewN n
set_option maxRecDepth 20000 in
set_option maxHeartbeats 2000000 in
theorem endCall_c (A1 : Option Addr) (P : List Int) (c1 : Nat) (A2 : Option Addr) (W : List Int) (c2 : Nat) (A3 : Option Addr) (F : List Int) (c3 : Nat) (gk : Nat) (k : Int) (w : World) (h : RdM w A1 P A2 W A3 F) (hk : w.cell? ⟨gk, 0, none⟩ = some (.int .i64 k)) :
    Calls Try.prog 61 #[mkV A1 P.length c1 A2 W.length c2 A3 F.length c3, .int .i64 k, (.func (Fn.func 62) #[] #[.pointer (some ⟨gk, 0, none⟩)])] w (Gives w (caV P W F k (callC k)) (caB P W F k)) := by
  have HB1 : Below w.heap.size w (w.alloc (.cells #[.slice A1 P.length c1, .slice A2 W.length c2, .slice A3 F.length c3] 28)) := (Below.refl _ _).alloc (Nat.le_refl _) _
  have bx := Bx3.new w (.slice A1 P.length c1) (.slice A2 W.length c2) (.slice A3 F.length c3) 28
  have hv := h.below HB1 (Nat.le_refl _)
  cases ha : mktB P W F
  · rw [(ca_1 (g := (callC k)) ha).1, (ca_1 (g := (callC k)) ha).2]
    go_enter Try.func61, Try.ntmps61
    go_wp2_with fail
    refine (isMarket_is _ _ _ _ _ _ _ _ _ _ ha _ hv).mono ?_
    rintro e w2 ⟨rfl, b2⟩
    go_wp2_with fail
    go_ret2
    exact ⟨none, 0, rfl, Own.nil _ _, bUp HB1 b2 HB1.size⟩
  cases hs : inB k 0 20
  · rw [(ca_2 (g := (callC k)) hs).1, (ca_2 (g := (callC k)) hs).2]
    go_enter Try.func61, Try.ntmps61
    go_wp2_with fail
    refine (isMarket_is _ _ _ _ _ _ _ _ _ _ ha _ hv).mono ?_
    rintro e w2 ⟨rfl, b2⟩
    go_wp2_with fail
    refine (within_is _ _ _ _ hs _).mono ?_
    rintro e w' ⟨rfl, rfl⟩
    go_wp2_with fail
    go_ret2
    exact ⟨none, 0, rfl, Own.nil _ _, bUp HB1 b2 HB1.size⟩
  have HE := Lib.hid (ca_3 (g := (callC k)) ha hs)
  have HM := Lib.hid (mktB_iff.1 ha)
  have HI := Lib.hid hs
  have hn2 := HM.out.1.n2
  have HCL := Lib.hid (clmBy_length P F (callC k))
  have hen : (endL P).length ≤ 24 := Nat.le_trans (enTo_len P P.length) hn2
  rw [HE.out.1, HE.out.2]
  go_enter Try.func61, Try.ntmps61
  go_wp2_with fail
  refine (isMarket_is _ _ _ _ _ _ _ _ _ _ ha _ hv).mono ?_
  rintro e w2 ⟨rfl, b2⟩
  go_wp2_with fail
  refine (within_is _ _ _ _ hs _).mono ?_
  rintro e w' ⟨rfl, rfl⟩
  have HB2 := bUp HB1 b2 HB1.size
  have bx2 := (bx.below b2).alloc (.cells #[] 3)
  have h1z : w.heap.size + 1 ≤ w2.heap.size := by have := b2.size; simp at this; exact this
  have o2 := (Own.lit w2 [] (by decide)).mono (B' := w.heap.size + 1) h1z
  have HB3 : Below w.heap.size w (w2.alloc (.cells #[] 3)) := HB2.alloc HB2.size _
  obtain ⟨f0, f1, f2, f3⟩ := id bx2
  clear ha hs HB1 HB2 bx b2 hv
  go_wp2_with fail
  refine (ends_c A1 P c1 A2 W.length c2 _ (h.r1.below HB3 (Nat.le_refl _)) HM.out.1.par HM.out.1.n1 HM.out.1.n2).mono ?_
  rintro e w4 ⟨Ae, ce, rfl, oe, b4⟩
  have O0 := Lib.hid (o2.below b4)
  have HB4 := bUp HB3 b4 HB3.size
  have bx4 := bx2.below b4
  have hap : ∀ b, blk (some ⟨w2.heap.size, 0, none⟩) = some b → blk Ae ≠ some b := fun b e1 e2 => by
    have e1 : w2.heap.size = b := Option.some.inj e1
    have := oe.ge b e2
    simp at this
    omega
  have OE := Lib.hid (oe.mono (B' := w.heap.size + 1) (by simp; omega))
  clear f0 f1 f2 f3 o2 HB3 b4 bx2 oe
  go_wp2_with fail
  go_loopw [8, 24] (fun o q wr => ∃ (i : Nat) (A : Option Addr) (c : Nat), i ≤ (endL P).length ∧ q = .int .i64 (i : Int) ∧ o = .slice A i c ∧ Own wr (w.heap.size + 1) A c ((clmBy P F (callC k)).take i) ∧ Own wr (w.heap.size + 1) Ae ce (endL P) ∧ (∀ b, blk A = some b → blk Ae ≠ some b) ∧ Bx3 wr w.heap.size (.slice A1 P.length c1) (.slice A2 W.length c2) (.slice A3 F.length c3) ∧ Below w.heap.size w wr) (fun _ q _ => (endL P).length - (intOf q).toNat)
  case atStart => exact ⟨0, _, 0, by omega, rfl, rfl, O0.out, OE.out, hap, bx4, HB4⟩
  case round =>
    clear O0 OE hap bx4 HB4
    obtain ⟨v, rfl⟩ : ∃ v : World, v = wr := ⟨_, rfl⟩
    obtain ⟨i, A, c, hi, rfl, rfl, o, oe, hap, bx, hb⟩ := hrel
    have HO := Lib.hid o
    have HOE := Lib.hid oe
    have HAP := Lib.hid hap
    clear o hap
    by_cases hlt : i < (endL P).length
    · obtain ⟨x, hx, _, hex⟩ := endL_nth hlt
      obtain ⟨ae, rfl, q1⟩ := oe.rd.intN hlt
      rw [hex] at q1
      have hFL := Lib.hid HM.out.2.1
      obtain ⟨a3, rfl, q2⟩ := (h.r3.below hb (Nat.le_refl _)).intN (k := x) (by rw [hFL.out]; exact hx)
      have ix : (x : Int) < (F.length : Int) := by rw [hFL.out]; omega
      have HT : Hid ((clmBy P F (callC k)).take (i + 1) = (clmBy P F (callC k)).take i ++ [(callC k) (nth F x)]) := Lib.hid (by rw [clmBy_take hlt, hex, Int.toNat_natCast])
      have HTL : Hid (((clmBy P F (callC k)).take i).length = i) := Lib.hid (by rw [List.length_take, HCL.out]; omega)
      have hk3 : Hid (v.cell? ⟨gk, 0, none⟩ = some (.int .i64 k)) := Lib.hid ((hb.cell (p := ⟨gk, 0, none⟩) (cell_lt hk)).trans hk)
      obtain ⟨f0, f1, f2, f3⟩ := id bx
      clear oe hex
      go_wp2_with fail
      refine (closCall_c gk k _ _ (hk3.out) (inB_iff.1 HI.out) (F_nth HM.out.2.2 x)).mono ?_
      rintro e v2 ⟨rfl, hd⟩
      have HD := Lib.hid hd
      have HO2 := Lib.hid (HO.out.dr hd)
      have hz2 : w.heap.size + 1 ≤ v2.heap.size := by rw [hd.size]; omega
      clear f0 f1 f2 f3 q1 q2 hd
      generalize (callC k) (nth F x) = y at *
      go_wp2_with (at_builtin; refine wp_append1 v2 y _ rfl _ _ rfl (w.heap.size + 1) A i c ((clmBy P F (callC k)).take i) rfl HTL.out.symm HO2.out rfl (by rw [HTL.out]; omega) hz2 ?_; intro A5 c5 v5 o5 g5 b5)
      go_roundw
      case rel => exact ⟨i + 1, A5, c5, by omega, by go_num, rfl, by rw [HT.out]; exact o5, (HOE.out.dr HD.out).grown g5 (ne_row2 HAP.out), fun b e1 e2 => by
        rcases b5 with t | ⟨r, t, hr⟩
        · exact HAP.out b (by rw [← t]; exact e1) e2
        · rw [t] at e1
          have e1 : r = b := Option.some.inj e1
          have := (HOE.out.dr HD.out).ltk b e2
          omega, (bx.dr_ HD.out).grownR g5 (fun e => by have := HO2.out.ge w.heap.size e; omega), (HD.out.below hb).grown g5 (by have := hb.size; rw [HD.out.size]; exact this) (fun b e => by have := HO2.out.ge b e; omega)⟩
      case measure => simp [intOf] <;> omega
    · obtain rfl : i = (endL P).length := by omega
      have HTA : Hid ((clmBy P F (callC k)).take (endL P).length = clmBy P F (callC k)) := Lib.hid (List.take_of_length_le (by rw [HCL.out]; exact Nat.le_refl _))
      go_wp2_with fail
      go_ret2
      exact ⟨A, c, by rw [HCL.out] <;> rfl, by rw [← HTA.out]; exact HO.out.mono (by omega), hb⟩
set_option maxRecDepth 20000 in
set_option maxHeartbeats 2000000 in
theorem endPut_c (A1 : Option Addr) (P : List Int) (c1 : Nat) (A2 : Option Addr) (W : List Int) (c2 : Nat) (A3 : Option Addr) (F : List Int) (c3 : Nat) (gk : Nat) (k : Int) (w : World) (h : RdM w A1 P A2 W A3 F) (hk : w.cell? ⟨gk, 0, none⟩ = some (.int .i64 k)) :
    Calls Try.prog 61 #[mkV A1 P.length c1 A2 W.length c2 A3 F.length c3, .int .i64 k, (.func (Fn.func 67) #[] #[.pointer (some ⟨gk, 0, none⟩)])] w (Gives w (caV P W F k (putC k)) (caB P W F k)) := by
  have HB1 : Below w.heap.size w (w.alloc (.cells #[.slice A1 P.length c1, .slice A2 W.length c2, .slice A3 F.length c3] 28)) := (Below.refl _ _).alloc (Nat.le_refl _) _
  have bx := Bx3.new w (.slice A1 P.length c1) (.slice A2 W.length c2) (.slice A3 F.length c3) 28
  have hv := h.below HB1 (Nat.le_refl _)
  cases ha : mktB P W F
  · rw [(ca_1 (g := (putC k)) ha).1, (ca_1 (g := (putC k)) ha).2]
    go_enter Try.func61, Try.ntmps61
    go_wp2_with fail
    refine (isMarket_is _ _ _ _ _ _ _ _ _ _ ha _ hv).mono ?_
    rintro e w2 ⟨rfl, b2⟩
    go_wp2_with fail
    go_ret2
    exact ⟨none, 0, rfl, Own.nil _ _, bUp HB1 b2 HB1.size⟩
  cases hs : inB k 0 20
  · rw [(ca_2 (g := (putC k)) hs).1, (ca_2 (g := (putC k)) hs).2]
    go_enter Try.func61, Try.ntmps61
    go_wp2_with fail
    refine (isMarket_is _ _ _ _ _ _ _ _ _ _ ha _ hv).mono ?_
    rintro e w2 ⟨rfl, b2⟩
    go_wp2_with fail
    refine (within_is _ _ _ _ hs _).mono ?_
    rintro e w' ⟨rfl, rfl⟩
    go_wp2_with fail
    go_ret2
    exact ⟨none, 0, rfl, Own.nil _ _, bUp HB1 b2 HB1.size⟩
  have HE := Lib.hid (ca_3 (g := (putC k)) ha hs)
  have HM := Lib.hid (mktB_iff.1 ha)
  have HI := Lib.hid hs
  have hn2 := HM.out.1.n2
  have HCL := Lib.hid (clmBy_length P F (putC k))
  have hen : (endL P).length ≤ 24 := Nat.le_trans (enTo_len P P.length) hn2
  rw [HE.out.1, HE.out.2]
  go_enter Try.func61, Try.ntmps61
  go_wp2_with fail
  refine (isMarket_is _ _ _ _ _ _ _ _ _ _ ha _ hv).mono ?_
  rintro e w2 ⟨rfl, b2⟩
  go_wp2_with fail
  refine (within_is _ _ _ _ hs _).mono ?_
  rintro e w' ⟨rfl, rfl⟩
  have HB2 := bUp HB1 b2 HB1.size
  have bx2 := (bx.below b2).alloc (.cells #[] 3)
  have h1z : w.heap.size + 1 ≤ w2.heap.size := by have := b2.size; simp at this; exact this
  have o2 := (Own.lit w2 [] (by decide)).mono (B' := w.heap.size + 1) h1z
  have HB3 : Below w.heap.size w (w2.alloc (.cells #[] 3)) := HB2.alloc HB2.size _
  obtain ⟨f0, f1, f2, f3⟩ := id bx2
  clear ha hs HB1 HB2 bx b2 hv
  go_wp2_with fail
  refine (ends_c A1 P c1 A2 W.length c2 _ (h.r1.below HB3 (Nat.le_refl _)) HM.out.1.par HM.out.1.n1 HM.out.1.n2).mono ?_
  rintro e w4 ⟨Ae, ce, rfl, oe, b4⟩
  have O0 := Lib.hid (o2.below b4)
  have HB4 := bUp HB3 b4 HB3.size
  have bx4 := bx2.below b4
  have hap : ∀ b, blk (some ⟨w2.heap.size, 0, none⟩) = some b → blk Ae ≠ some b := fun b e1 e2 => by
    have e1 : w2.heap.size = b := Option.some.inj e1
    have := oe.ge b e2
    simp at this
    omega
  have OE := Lib.hid (oe.mono (B' := w.heap.size + 1) (by simp; omega))
  clear f0 f1 f2 f3 o2 HB3 b4 bx2 oe
  go_wp2_with fail
  go_loopw [8, 24] (fun o q wr => ∃ (i : Nat) (A : Option Addr) (c : Nat), i ≤ (endL P).length ∧ q = .int .i64 (i : Int) ∧ o = .slice A i c ∧ Own wr (w.heap.size + 1) A c ((clmBy P F (putC k)).take i) ∧ Own wr (w.heap.size + 1) Ae ce (endL P) ∧ (∀ b, blk A = some b → blk Ae ≠ some b) ∧ Bx3 wr w.heap.size (.slice A1 P.length c1) (.slice A2 W.length c2) (.slice A3 F.length c3) ∧ Below w.heap.size w wr) (fun _ q _ => (endL P).length - (intOf q).toNat)
  case atStart => exact ⟨0, _, 0, by omega, rfl, rfl, O0.out, OE.out, hap, bx4, HB4⟩
  case round =>
    clear O0 OE hap bx4 HB4
    obtain ⟨v, rfl⟩ : ∃ v : World, v = wr := ⟨_, rfl⟩
    obtain ⟨i, A, c, hi, rfl, rfl, o, oe, hap, bx, hb⟩ := hrel
    have HO := Lib.hid o
    have HOE := Lib.hid oe
    have HAP := Lib.hid hap
    clear o hap
    by_cases hlt : i < (endL P).length
    · obtain ⟨x, hx, _, hex⟩ := endL_nth hlt
      obtain ⟨ae, rfl, q1⟩ := oe.rd.intN hlt
      rw [hex] at q1
      have hFL := Lib.hid HM.out.2.1
      obtain ⟨a3, rfl, q2⟩ := (h.r3.below hb (Nat.le_refl _)).intN (k := x) (by rw [hFL.out]; exact hx)
      have ix : (x : Int) < (F.length : Int) := by rw [hFL.out]; omega
      have HT : Hid ((clmBy P F (putC k)).take (i + 1) = (clmBy P F (putC k)).take i ++ [(putC k) (nth F x)]) := Lib.hid (by rw [clmBy_take hlt, hex, Int.toNat_natCast])
      have HTL : Hid (((clmBy P F (putC k)).take i).length = i) := Lib.hid (by rw [List.length_take, HCL.out]; omega)
      have hk3 : Hid (v.cell? ⟨gk, 0, none⟩ = some (.int .i64 k)) := Lib.hid ((hb.cell (p := ⟨gk, 0, none⟩) (cell_lt hk)).trans hk)
      obtain ⟨f0, f1, f2, f3⟩ := id bx
      clear oe hex
      go_wp2_with fail
      refine (closPut_c gk k _ _ (hk3.out) (inB_iff.1 HI.out) (F_nth HM.out.2.2 x)).mono ?_
      rintro e v2 ⟨rfl, hd⟩
      have HD := Lib.hid hd
      have HO2 := Lib.hid (HO.out.dr hd)
      have hz2 : w.heap.size + 1 ≤ v2.heap.size := by rw [hd.size]; omega
      clear f0 f1 f2 f3 q1 q2 hd
      generalize (putC k) (nth F x) = y at *
      go_wp2_with (at_builtin; refine wp_append1 v2 y _ rfl _ _ rfl (w.heap.size + 1) A i c ((clmBy P F (putC k)).take i) rfl HTL.out.symm HO2.out rfl (by rw [HTL.out]; omega) hz2 ?_; intro A5 c5 v5 o5 g5 b5)
      go_roundw
      case rel => exact ⟨i + 1, A5, c5, by omega, by go_num, rfl, by rw [HT.out]; exact o5, (HOE.out.dr HD.out).grown g5 (ne_row2 HAP.out), fun b e1 e2 => by
        rcases b5 with t | ⟨r, t, hr⟩
        · exact HAP.out b (by rw [← t]; exact e1) e2
        · rw [t] at e1
          have e1 : r = b := Option.some.inj e1
          have := (HOE.out.dr HD.out).ltk b e2
          omega, (bx.dr_ HD.out).grownR g5 (fun e => by have := HO2.out.ge w.heap.size e; omega), (HD.out.below hb).grown g5 (by have := hb.size; rw [HD.out.size]; exact this) (fun b e => by have := HO2.out.ge b e; omega)⟩
      case measure => simp [intOf] <;> omega
    · obtain rfl : i = (endL P).length := by omega
      have HTA : Hid ((clmBy P F (putC k)).take (endL P).length = clmBy P F (putC k)) := Lib.hid (List.take_of_length_le (by rw [HCL.out]; exact Nat.le_refl _))
      go_wp2_with fail
      go_ret2
      exact ⟨A, c, by rw [HCL.out] <;> rfl, by rw [← HTA.out]; exact HO.out.mono (by omega), hb⟩
set_option maxRecDepth 20000 in
set_option maxHeartbeats 2000000 in
theorem endShare_c (A1 : Option Addr) (P : List Int) (c1 : Nat) (A2 : Option Addr) (W : List Int) (c2 : Nat) (A3 : Option Addr) (F : List Int) (c3 : Nat) (w : World) (h : RdM w A1 P A2 W A3 F) :
    Calls Try.prog 61 #[mkV A1 P.length c1 A2 W.length c2 A3 F.length c3, .int .i64 0, (.func (Fn.func 68) #[] #[])] w (Gives w (caV P W F 0 shareC) (caB P W F 0)) := by
  have HB1 : Below w.heap.size w (w.alloc (.cells #[.slice A1 P.length c1, .slice A2 W.length c2, .slice A3 F.length c3] 28)) := (Below.refl _ _).alloc (Nat.le_refl _) _
  have bx := Bx3.new w (.slice A1 P.length c1) (.slice A2 W.length c2) (.slice A3 F.length c3) 28
  have hv := h.below HB1 (Nat.le_refl _)
  cases ha : mktB P W F
  · rw [(ca_1 (g := shareC) ha).1, (ca_1 (g := shareC) ha).2]
    go_enter Try.func61, Try.ntmps61
    go_wp2_with fail
    refine (isMarket_is _ _ _ _ _ _ _ _ _ _ ha _ hv).mono ?_
    rintro e w2 ⟨rfl, b2⟩
    go_wp2_with fail
    go_ret2
    exact ⟨none, 0, rfl, Own.nil _ _, bUp HB1 b2 HB1.size⟩
  cases hs : inB 0 0 20
  · rw [(ca_2 (g := shareC) hs).1, (ca_2 (g := shareC) hs).2]
    go_enter Try.func61, Try.ntmps61
    go_wp2_with fail
    refine (isMarket_is _ _ _ _ _ _ _ _ _ _ ha _ hv).mono ?_
    rintro e w2 ⟨rfl, b2⟩
    go_wp2_with fail
    refine (within_is _ _ _ _ hs _).mono ?_
    rintro e w' ⟨rfl, rfl⟩
    go_wp2_with fail
    go_ret2
    exact ⟨none, 0, rfl, Own.nil _ _, bUp HB1 b2 HB1.size⟩
  have HE := Lib.hid (ca_3 (g := shareC) ha hs)
  have HM := Lib.hid (mktB_iff.1 ha)
  have HI := Lib.hid hs
  have hn2 := HM.out.1.n2
  have HCL := Lib.hid (clmBy_length P F shareC)
  have hen : (endL P).length ≤ 24 := Nat.le_trans (enTo_len P P.length) hn2
  rw [HE.out.1, HE.out.2]
  go_enter Try.func61, Try.ntmps61
  go_wp2_with fail
  refine (isMarket_is _ _ _ _ _ _ _ _ _ _ ha _ hv).mono ?_
  rintro e w2 ⟨rfl, b2⟩
  go_wp2_with fail
  refine (within_is _ _ _ _ hs _).mono ?_
  rintro e w' ⟨rfl, rfl⟩
  have HB2 := bUp HB1 b2 HB1.size
  have bx2 := (bx.below b2).alloc (.cells #[] 3)
  have h1z : w.heap.size + 1 ≤ w2.heap.size := by have := b2.size; simp at this; exact this
  have o2 := (Own.lit w2 [] (by decide)).mono (B' := w.heap.size + 1) h1z
  have HB3 : Below w.heap.size w (w2.alloc (.cells #[] 3)) := HB2.alloc HB2.size _
  obtain ⟨f0, f1, f2, f3⟩ := id bx2
  clear ha hs HB1 HB2 bx b2 hv
  go_wp2_with fail
  refine (ends_c A1 P c1 A2 W.length c2 _ (h.r1.below HB3 (Nat.le_refl _)) HM.out.1.par HM.out.1.n1 HM.out.1.n2).mono ?_
  rintro e w4 ⟨Ae, ce, rfl, oe, b4⟩
  have O0 := Lib.hid (o2.below b4)
  have HB4 := bUp HB3 b4 HB3.size
  have bx4 := bx2.below b4
  have hap : ∀ b, blk (some ⟨w2.heap.size, 0, none⟩) = some b → blk Ae ≠ some b := fun b e1 e2 => by
    have e1 : w2.heap.size = b := Option.some.inj e1
    have := oe.ge b e2
    simp at this
    omega
  have OE := Lib.hid (oe.mono (B' := w.heap.size + 1) (by simp; omega))
  clear f0 f1 f2 f3 o2 HB3 b4 bx2 oe
  go_wp2_with fail
  go_loopw [8, 24] (fun o q wr => ∃ (i : Nat) (A : Option Addr) (c : Nat), i ≤ (endL P).length ∧ q = .int .i64 (i : Int) ∧ o = .slice A i c ∧ Own wr (w.heap.size + 1) A c ((clmBy P F shareC).take i) ∧ Own wr (w.heap.size + 1) Ae ce (endL P) ∧ (∀ b, blk A = some b → blk Ae ≠ some b) ∧ Bx3 wr w.heap.size (.slice A1 P.length c1) (.slice A2 W.length c2) (.slice A3 F.length c3) ∧ Below w.heap.size w wr) (fun _ q _ => (endL P).length - (intOf q).toNat)
  case atStart => exact ⟨0, _, 0, by omega, rfl, rfl, O0.out, OE.out, hap, bx4, HB4⟩
  case round =>
    clear O0 OE hap bx4 HB4
    obtain ⟨v, rfl⟩ : ∃ v : World, v = wr := ⟨_, rfl⟩
    obtain ⟨i, A, c, hi, rfl, rfl, o, oe, hap, bx, hb⟩ := hrel
    have HO := Lib.hid o
    have HOE := Lib.hid oe
    have HAP := Lib.hid hap
    clear o hap
    by_cases hlt : i < (endL P).length
    · obtain ⟨x, hx, _, hex⟩ := endL_nth hlt
      obtain ⟨ae, rfl, q1⟩ := oe.rd.intN hlt
      rw [hex] at q1
      have hFL := Lib.hid HM.out.2.1
      obtain ⟨a3, rfl, q2⟩ := (h.r3.below hb (Nat.le_refl _)).intN (k := x) (by rw [hFL.out]; exact hx)
      have ix : (x : Int) < (F.length : Int) := by rw [hFL.out]; omega
      have HT : Hid ((clmBy P F shareC).take (i + 1) = (clmBy P F shareC).take i ++ [shareC (nth F x)]) := Lib.hid (by rw [clmBy_take hlt, hex, Int.toNat_natCast])
      have HTL : Hid (((clmBy P F shareC).take i).length = i) := Lib.hid (by rw [List.length_take, HCL.out]; omega)
      obtain ⟨f0, f1, f2, f3⟩ := id bx
      clear oe hex
      go_wp2_with fail
      refine (closShare_c _ _).mono ?_
      rintro e v2 ⟨rfl, hd⟩
      have HD := Lib.hid hd
      have HO2 := Lib.hid (HO.out.dr hd)
      have hz2 : w.heap.size + 1 ≤ v2.heap.size := by rw [hd.size]; omega
      clear f0 f1 f2 f3 q1 q2 hd
      generalize shareC (nth F x) = y at *
      go_wp2_with (at_builtin; refine wp_append1 v2 y _ rfl _ _ rfl (w.heap.size + 1) A i c ((clmBy P F shareC).take i) rfl HTL.out.symm HO2.out rfl (by rw [HTL.out]; omega) hz2 ?_; intro A5 c5 v5 o5 g5 b5)
      go_roundw
      case rel => exact ⟨i + 1, A5, c5, by omega, by go_num, rfl, by rw [HT.out]; exact o5, (HOE.out.dr HD.out).grown g5 (ne_row2 HAP.out), fun b e1 e2 => by
        rcases b5 with t | ⟨r, t, hr⟩
        · exact HAP.out b (by rw [← t]; exact e1) e2
        · rw [t] at e1
          have e1 : r = b := Option.some.inj e1
          have := (HOE.out.dr HD.out).ltk b e2
          omega, (bx.dr_ HD.out).grownR g5 (fun e => by have := HO2.out.ge w.heap.size e; omega), (HD.out.below hb).grown g5 (by have := hb.size; rw [HD.out.size]; exact this) (fun b e => by have := HO2.out.ge b e; omega)⟩
      case measure => simp [intOf] <;> omega
    · obtain rfl : i = (endL P).length := by omega
      have HTA : Hid ((clmBy P F shareC).take (endL P).length = clmBy P F shareC) := Lib.hid (List.take_of_length_le (by rw [HCL.out]; exact Nat.le_refl _))
      go_wp2_with fail
      go_ret2
      exact ⟨A, c, by rw [HCL.out] <;> rfl, by rw [← HTA.out]; exact HO.out.mono (by omega), hb⟩
set_option maxRecDepth 20000 in
set_option maxHeartbeats 1000000 in
theorem implCall_c (A1 : Option Addr) (P : List Int) (c1 : Nat) (A2 : Option Addr) (W : List Int) (c2 : Nat) (A3 : Option Addr) (F : List Int) (c3 : Nat) (k : Int) (w : World) (h : RdM w A1 P A2 W A3 F) :
    Calls Try.prog 9 #[mkV A1 P.length c1 A2 W.length c2 A3 F.length c3, .int .i64 k] w (Gives w (caV P W F k (callC k)) (caB P W F k)) := by
  have HB1 : Below w.heap.size w ((w.alloc (.cells #[.slice A1 P.length c1, .slice A2 W.length c2, .slice A3 F.length c3] 28)).alloc (.cells #[.int .i64 k] 3)) := ((Below.refl _ _).alloc (Nat.le_refl _) _).alloc (by simp) _
  have hmf : ∀ (fn : Fn) (first cap : Array Value) (w : World), (Instr.makeFunc fn first cap).run Try.prog w = .ok (.func fn first cap) w := fun _ _ _ _ => rfl
  have hk : ((w.alloc (.cells #[.slice A1 P.length c1, .slice A2 W.length c2, .slice A3 F.length c3] 28)).alloc (.cells #[.int .i64 k] 3)).cell? ⟨w.heap.size + 1, 0, none⟩ = some (.int .i64 k) := by simp
  go_enter Try.func9, Try.ntmps9
  go_wp2_with fail
  refine (endCall_c A1 P c1 A2 W c2 A3 F c3 (w.heap.size + 1) k _ (h.below HB1 (Nat.le_refl _)) hk).mono ?_
  rintro e w2 ⟨A, c, rfl, o, b⟩
  go_wp2_with fail
  go_ret2
  exact ⟨A, c, rfl, o.mono HB1.size, bUp HB1 b HB1.size⟩
set_option maxRecDepth 20000 in
set_option maxHeartbeats 1000000 in
theorem implPut_c (A1 : Option Addr) (P : List Int) (c1 : Nat) (A2 : Option Addr) (W : List Int) (c2 : Nat) (A3 : Option Addr) (F : List Int) (c3 : Nat) (k : Int) (w : World) (h : RdM w A1 P A2 W A3 F) :
    Calls Try.prog 12 #[mkV A1 P.length c1 A2 W.length c2 A3 F.length c3, .int .i64 k] w (Gives w (caV P W F k (putC k)) (caB P W F k)) := by
  have HB1 : Below w.heap.size w ((w.alloc (.cells #[.slice A1 P.length c1, .slice A2 W.length c2, .slice A3 F.length c3] 28)).alloc (.cells #[.int .i64 k] 3)) := ((Below.refl _ _).alloc (Nat.le_refl _) _).alloc (by simp) _
  have hmf : ∀ (fn : Fn) (first cap : Array Value) (w : World), (Instr.makeFunc fn first cap).run Try.prog w = .ok (.func fn first cap) w := fun _ _ _ _ => rfl
  have hk : ((w.alloc (.cells #[.slice A1 P.length c1, .slice A2 W.length c2, .slice A3 F.length c3] 28)).alloc (.cells #[.int .i64 k] 3)).cell? ⟨w.heap.size + 1, 0, none⟩ = some (.int .i64 k) := by simp
  go_enter Try.func12, Try.ntmps12
  go_wp2_with fail
  refine (endPut_c A1 P c1 A2 W c2 A3 F c3 (w.heap.size + 1) k _ (h.below HB1 (Nat.le_refl _)) hk).mono ?_
  rintro e w2 ⟨A, c, rfl, o, b⟩
  go_wp2_with fail
  go_ret2
  exact ⟨A, c, rfl, o.mono HB1.size, bUp HB1 b HB1.size⟩
set_option maxRecDepth 20000 in
set_option maxHeartbeats 1000000 in
theorem implShare_c (A1 : Option Addr) (P : List Int) (c1 : Nat) (A2 : Option Addr) (W : List Int) (c2 : Nat) (A3 : Option Addr) (F : List Int) (c3 : Nat) (w : World) (h : RdM w A1 P A2 W A3 F) :
    Calls Try.prog 14 #[mkV A1 P.length c1 A2 W.length c2 A3 F.length c3] w (Gives w (caV P W F 0 shareC) (caB P W F 0)) := by
  have HB1 : Below w.heap.size w (w.alloc (.cells #[.slice A1 P.length c1, .slice A2 W.length c2, .slice A3 F.length c3] 28)) := (Below.refl _ _).alloc (Nat.le_refl _) _
  go_enter Try.func14, Try.ntmps14
  go_wp2_with fail
  refine (endShare_c A1 P c1 A2 W c2 A3 F c3 _ (h.below HB1 (Nat.le_refl _))).mono ?_
  rintro e w2 ⟨A, c, rfl, o, b⟩
  go_wp2_with fail
  go_ret2
  exact ⟨A, c, rfl, o.mono HB1.size, bUp HB1 b HB1.size⟩
set_option maxRecDepth 20000 in
set_option maxHeartbeats 2000000 in
theorem l6EndPrices_c (A1 : Option Addr) (P : List Int) (c1 : Nat) (A2 : Option Addr) (W : List Int) (c2 : Nat) (A3 : Option Addr) (F : List Int) (c3 : Nat) (w : World) (h : RdM w A1 P A2 W A3 F) (hm : mktB P W F = true) :
    Calls Try.prog 65 #[mkV A1 P.length c1 A2 W.length c2 A3 F.length c3] w (Row w (clmBy P F shareC)) := by
  have HB1 : Below w.heap.size w (w.alloc (.cells #[.slice A1 P.length c1, .slice A2 W.length c2, .slice A3 F.length c3] 28)) := (Below.refl _ _).alloc (Nat.le_refl _) _
  have bx2 := (Bx3.new w (.slice A1 P.length c1) (.slice A2 W.length c2) (.slice A3 F.length c3) 28).alloc (.cells #[] 3)
  have HM := Lib.hid (mktB_iff.1 hm)
  have hn2 := HM.out.1.n2
  have HCL := Lib.hid (clmBy_length P F shareC)
  have hen : (endL P).length ≤ 24 := Nat.le_trans (enTo_len P P.length) hn2
  have o2 := (Own.lit (w.alloc (.cells #[.slice A1 P.length c1, .slice A2 W.length c2, .slice A3 F.length c3] 28)) [] (by decide)).mono (B' := w.heap.size + 1) (by simp)
  have HB3 : Below w.heap.size w ((w.alloc (.cells #[.slice A1 P.length c1, .slice A2 W.length c2, .slice A3 F.length c3] 28)).alloc (.cells #[] 3)) := HB1.alloc HB1.size _
  simp only [World.size_alloc] at o2
  obtain ⟨f0, f1, f2, f3⟩ := id bx2
  go_enter Try.func65, Try.ntmps65
  go_wp2_with fail
  refine (l2Ends_c A1 P c1 A2 W.length c2 _ (h.r1.below HB3 (Nat.le_refl _)) HM.out.1.par HM.out.1.n2).mono ?_
  rintro e w4 ⟨Ae, ce, rfl, oe, b4⟩
  have O0 := Lib.hid (o2.below b4)
  have HB4 := bUp HB3 b4 HB3.size
  have bx4 := bx2.below b4
  have hap : ∀ b, blk (some ⟨w.heap.size + 1, 0, none⟩) = some b → blk Ae ≠ some b := fun b e1 e2 => by
    have e1 : w.heap.size + 1 = b := Option.some.inj e1
    have := oe.ge b e2
    simp at this
    omega
  have OE := Lib.hid (oe.mono (B' := w.heap.size + 1) (by simp))
  have HZ4 : w.heap.size + 1 ≤ w4.heap.size := by have := b4.size; simp at this; omega
  clear f0 f1 f2 f3 o2 HB3 b4 bx2 oe
  go_wp2_with fail
  go_loopw [3, 5] (fun o q wr => ∃ (i : Nat) (A : Option Addr) (c : Nat), i ≤ (endL P).length ∧ q = .int .i64 (i : Int) ∧ o = .slice A i c ∧ Own wr (w.heap.size + 1) A c ((clmBy P F shareC).take i) ∧ Own wr (w.heap.size + 1) Ae ce (endL P) ∧ (∀ b, blk A = some b → blk Ae ≠ some b) ∧ Bx3 wr w.heap.size (.slice A1 P.length c1) (.slice A2 W.length c2) (.slice A3 F.length c3) ∧ Below w.heap.size w wr ∧ w.heap.size + 1 ≤ wr.heap.size) (fun _ q _ => (endL P).length - (intOf q).toNat)
  case atStart => exact ⟨0, _, 0, by omega, rfl, rfl, O0.out, OE.out, hap, bx4, HB4, HZ4⟩
  case round =>
    clear O0 OE hap bx4 HB4 HZ4
    obtain ⟨v, rfl⟩ : ∃ v : World, v = wr := ⟨_, rfl⟩
    obtain ⟨i, A, c, hi, rfl, rfl, o, oe, hap, bx, hb, hz⟩ := hrel
    have HO := Lib.hid o
    have HOE := Lib.hid oe
    have HAP := Lib.hid hap
    have HZ := Lib.hid hz
    clear o hap hz
    by_cases hlt : i < (endL P).length
    · obtain ⟨x, hx, _, hex⟩ := endL_nth hlt
      obtain ⟨ae, rfl, q1⟩ := oe.rd.intN hlt
      rw [hex] at q1
      have hFL := Lib.hid HM.out.2.1
      obtain ⟨a3, rfl, q2⟩ := (h.r3.below hb (Nat.le_refl _)).intN (k := x) (by rw [hFL.out]; exact hx)
      have ix : (x : Int) < (F.length : Int) := by rw [hFL.out]; omega
      have HT : Hid ((clmBy P F shareC).take (i + 1) = (clmBy P F shareC).take i ++ [nth F x]) := Lib.hid (by rw [clmBy_take hlt, hex, Int.toNat_natCast]; rfl)
      have HTL : Hid (((clmBy P F shareC).take i).length = i) := Lib.hid (by rw [List.length_take, HCL.out]; omega)
      have BX := Lib.hid bx
      obtain ⟨f0, f1, f2, f3⟩ := id bx
      clear oe hex bx
      go_upto_region 5 with fail
      have hd1 : Below v.heap.size v v.drew := Below.drew (Below.refl _ _)
      have SK1 : Hid (∀ w', Below v.heap.size v w' → w'.cell? ⟨w.heap.size, 1, none⟩ = some (.slice A2 W.length c2) ∧ w'.cell? ⟨w.heap.size, 2, none⟩ = some (.slice (some a3) F.length c3) ∧ w'.cell? (ae.add i) = some (.int .i64 (x : Int)) ∧ w'.cell? (a3.add x) = some (.int .i64 (nth F x))) := Lib.hid fun w' HV => ⟨(HV.cell (cell_lt f1)).trans f1, (HV.cell (cell_lt f2)).trans f2, (HV.cell (cell_lt q1)).trans q1, (HV.cell (cell_lt q2)).trans q2⟩
      clear f0 f1 f2 f3 q1 q2
      have hS1_0 := SK1.out _ hd1
      refine tamed_region (S := fun w' => w'.cell? ⟨w.heap.size, 1, none⟩ = some (.slice A2 W.length c2) ∧ w'.cell? ⟨w.heap.size, 2, none⟩ = some (.slice (some a3) F.length c3) ∧ w'.cell? (ae.add i) = some (.int .i64 (x : Int)) ∧ w'.cell? (a3.add x) = some (.int .i64 (nth F x))) (fun k => k == 10 || k == 11) (by kernel_rfl) ?_
      refine tame0 (k := 0) ?_ rfl (by kernel_rfl) (by kernel_rfl) (by kernel_rfl) (fun _ _ _ h => h) (by kernel_rfl) (fun v => ?_) ?_
      rotate_left
      · (go_simp; all_goals rfl)
      simp only [Act.put, List.setIfInBounds_toArray]
      refine tame0 (k := 1) ?_ rfl (by kernel_rfl) (by kernel_rfl) (by kernel_rfl) (fun _ _ _ h => h) (by kernel_rfl) (fun v => ?_) ?_
      rotate_left
      · (go_simp; all_goals rfl)
      simp only [Act.put]
      refine tameT (k := 2) ?_ rfl (by kernel_rfl) (by kernel_rfl) (by kernel_rfl) (by kernel_rfl) (by kernel_rfl) (fun _ _ _ h => h) (by kernel_rfl) hS1_0 (fun v hv => ?_) ?_
      rotate_left
      · (obtain ⟨k1, k2, k3, k4⟩ := hv; go_simp; all_goals rfl)
      simp only [Act.put]
      refine tame0 (k := 3) ?_ rfl (by kernel_rfl) (by kernel_rfl) (by kernel_rfl) (fun _ _ _ h => h) (by kernel_rfl) (fun v => ?_) ?_
      rotate_left
      · (go_simp; all_goals rfl)
      simp only [Act.put]
      refine tame0 (k := 4) ?_ rfl (by kernel_rfl) (by kernel_rfl) (by kernel_rfl) (fun _ _ _ h => h) (by kernel_rfl) (fun v => ?_) ?_
      rotate_left
      · (go_simp; all_goals rfl)
      simp only [Act.put]
      refine tame0 (k := 5) ?_ rfl (by kernel_rfl) (by kernel_rfl) (by kernel_rfl) (fun _ _ _ h => h) (by kernel_rfl) (fun v => ?_) ?_
      rotate_left
      · (go_simp; all_goals rfl)
      simp only [Act.put]
      refine tameT (k := 6) ?_ rfl (by kernel_rfl) (by kernel_rfl) (by kernel_rfl) (by kernel_rfl) (by kernel_rfl) (fun _ _ _ h => h) (by kernel_rfl) hS1_0 (fun v hv => ?_) ?_
      rotate_left
      · (obtain ⟨k1, k2, k3, k4⟩ := hv; go_simp; all_goals rfl)
      simp only [Act.put]
      refine tame0 (k := 7) ?_ rfl (by kernel_rfl) (by kernel_rfl) (by kernel_rfl) (fun _ _ _ h => h) (by kernel_rfl) (fun v => ?_) ?_
      rotate_left
      · (go_simp; all_goals rfl)
      simp only [Act.put]
      refine tameT (k := 8) ?_ rfl (by kernel_rfl) (by kernel_rfl) (by kernel_rfl) (by kernel_rfl) (by kernel_rfl) (fun _ _ _ h => h) (by kernel_rfl) hS1_0 (fun v hv => ?_) ?_
      rotate_left
      · (obtain ⟨k1, k2, k3, k4⟩ := hv; go_simp; all_goals rfl)
      simp only [Act.put]
      have Hal : Below v.heap.size v (v.alloc (.cells #[.int .i64 (nth F x)] 3)) := (Below.refl _ _).alloc (Nat.le_refl _) _
      refine tame_one (k := 9) (by kernel_rfl) rfl (by kernel_rfl) ?_
      go_simp
      refine ⟨SK1.out _ Hal, ?_⟩
      refine tame_one (k := 10) (by kernel_rfl) rfl (by kernel_rfl) ?_
      refine op_append_ints _ (.tmp 16) (.tmp 25) rfl (w.heap.size + 1) A i c ((clmBy P F shareC).take i) rfl HTL.out.symm (HO.out.alloc _).drew (some ⟨v.heap.size, 0, none⟩) 1 1 [nth F x] rfl rfl (Rd.box v _ _).drew (by rw [HTL.out]; simp; omega) (by have := hb.size; have := HZ.out; simp; omega) ?_
      intro A5 c5 v5 o5 g6 b6
      have g5 : v.grownBy v5 (blk A) := grown_of_alloc_drew g6
      have b5 : blk A5 = blk A ∨ ∃ r, blk A5 = some r ∧ v.heap.size ≤ r := b6.imp id (fun t => ⟨_, t, by simp⟩)
      clear g6 b6
      refine ⟨fun h => absurd h (by decide), ?_⟩
      simp only [Act.put]
      refine tame_one (k := 11) (by kernel_rfl) rfl (by kernel_rfl) ?_
      go_simp
      try (refine ⟨fun h => absurd h (by decide), ?_⟩)
      refine tame_end (by kernel_rfl) ?_
      clear hd1 SK1
      go_wp2_with fail
      go_roundw
      case rel => exact ⟨i + 1, A5, c5, by omega, by go_num, rfl, by rw [HT.out]; exact o5, HOE.out.grown g5 (ne_row2 HAP.out), fun b e1 e2 => by
        rcases b5 with t | ⟨r, t, hr⟩
        · exact HAP.out b (by rw [← t]; exact e1) e2
        · rw [t] at e1
          have e1 : r = b := Option.some.inj e1
          have := HOE.out.ltk b e2
          omega, BX.out.grownR g5 (fun e => by have := HO.out.ge w.heap.size e; omega), hb.grown g5 hb.size (fun b e => by have := HO.out.ge b e; omega), Nat.le_trans HZ.out g5.size⟩
      case measure => simp [intOf] <;> omega
    · obtain rfl : i = (endL P).length := by omega
      have HTA : Hid ((clmBy P F shareC).take (endL P).length = clmBy P F shareC) := Lib.hid (List.take_of_length_le (by rw [HCL.out]; exact Nat.le_refl _))
      go_wp2_with fail
      go_ret
      exact ⟨A, c, by rw [HCL.out] <;> rfl, by rw [← HTA.out]; exact HO.out.mono (by omega), hb⟩
set_option maxRecDepth 20000 in
set_option maxHeartbeats 1000000 in
theorem specShare_c (A1 : Option Addr) (P : List Int) (c1 : Nat) (A2 : Option Addr) (W : List Int) (c2 : Nat) (A3 : Option Addr) (F : List Int) (c3 : Nat) (w : World) (h : RdM w A1 P A2 W A3 F) :
    Calls Try.prog 15 #[mkV A1 P.length c1 A2 W.length c2 A3 F.length c3] w (Gives w (caV P W F 0 shareC) (caB P W F 0)) := by
  have HB1 : Below w.heap.size w (w.alloc (.cells #[.slice A1 P.length c1, .slice A2 W.length c2, .slice A3 F.length c3] 28)) := (Below.refl _ _).alloc (Nat.le_refl _) _
  have bx := Bx3.new w (.slice A1 P.length c1) (.slice A2 W.length c2) (.slice A3 F.length c3) 28
  have hv := h.below HB1 (Nat.le_refl _)
  cases ha : mktB P W F
  · rw [(ca_1 (g := shareC) ha).1, (ca_1 (g := shareC) ha).2]
    go_enter Try.func15, Try.ntmps15
    go_wp2_with fail
    refine (l6Market_is _ _ _ _ _ _ _ _ _ _ ha _ hv).mono ?_
    rintro e w2 ⟨rfl, b2⟩
    have HB2 := bUp HB1 b2 HB1.size
    go_wp2_with fail
    go_ret2
    exact ⟨_, 0, rfl, (Own.lit w2 [] (by decide)).mono HB2.size, HB2.alloc HB2.size _⟩
  · have HE := Lib.hid (ca_3 (g := shareC) ha (show inB 0 0 20 = true by decide))
    rw [HE.out.1, HE.out.2]
    go_enter Try.func15, Try.ntmps15
    go_wp2_with fail
    refine (l6Market_is _ _ _ _ _ _ _ _ _ _ ha _ hv).mono ?_
    rintro e w2 ⟨rfl, b2⟩
    have HB2 := bUp HB1 b2 HB1.size
    obtain ⟨f0, f1, f2, f3⟩ := bx.below b2
    go_wp2_with fail
    refine (l6EndPrices_c A1 P c1 A2 W c2 A3 F c3 _ (h.below HB2 (Nat.le_refl _)) ha).mono ?_
    rintro e w3 ⟨A, c, rfl, o, b3⟩
    go_wp2_with fail
    go_ret2
    exact ⟨A, c, rfl, o.mono HB2.size, bUp HB2 b3 HB2.size⟩
theorem by_Call (P F : List Int) (k : Int) : ∀ i, i < (endL P).length → nth (clmBy P F (callC k)) i = callC k (nth (clmBy P F shareC) i) := fun i hi => by rw [clmBy_nth hi, clmBy_nth hi]; rfl
set_option maxRecDepth 20000 in
set_option maxHeartbeats 2000000 in
theorem specCall_c (A1 : Option Addr) (P : List Int) (c1 : Nat) (A2 : Option Addr) (W : List Int) (c2 : Nat) (A3 : Option Addr) (F : List Int) (c3 : Nat) (k : Int) (w : World) (h : RdM w A1 P A2 W A3 F) :
    Calls Try.prog 10 #[mkV A1 P.length c1 A2 W.length c2 A3 F.length c3, .int .i64 k] w (Gives w (caV P W F k (callC k)) (caB P W F k)) := by
  have HB1 : Below w.heap.size w ((w.alloc (.cells #[.slice A1 P.length c1, .slice A2 W.length c2, .slice A3 F.length c3] 28)).alloc (.cells #[] 3)) := ((Below.refl _ _).alloc (Nat.le_refl _) _).alloc (by simp) _
  have bx := (Bx3.new w (.slice A1 P.length c1) (.slice A2 W.length c2) (.slice A3 F.length c3) 28).alloc (.cells #[] 3)
  have o1 := (Own.lit (w.alloc (.cells #[.slice A1 P.length c1, .slice A2 W.length c2, .slice A3 F.length c3] 28)) [] (by decide)).mono (B' := w.heap.size) (by simp)
  have hv := h.below HB1 (Nat.le_refl _)
  simp only [World.size_alloc] at o1
  obtain ⟨f0, f1, f2, f3⟩ := id bx
  cases ha : mktB P W F
  · rw [(ca_1 (g := callC k) ha).1, (ca_1 (g := callC k) ha).2]
    go_enter Try.func10, Try.ntmps10
    go_wp2_with fail
    refine (l6Market_is _ _ _ _ _ _ _ _ _ _ ha _ hv).mono ?_
    rintro e w2 ⟨rfl, b2⟩
    go_wp2_with fail
    go_ret2
    exact ⟨_, 0, rfl, o1.below b2, bUp HB1 b2 HB1.size⟩
  cases hs : inB k 0 20
  · rw [(ca_2 (g := callC k) hs).1, (ca_2 (g := callC k) hs).2]
    go_enter Try.func10, Try.ntmps10
    go_wp2_with fail
    refine (l6Market_is _ _ _ _ _ _ _ _ _ _ ha _ hv).mono ?_
    rintro e w2 ⟨rfl, b2⟩
    go_wp2_with fail
    refine (l1In_is _ _ _ _ hs _).mono ?_
    rintro e w' ⟨rfl, rfl⟩
    go_wp2_with fail
    go_ret2
    exact ⟨_, 0, rfl, o1.below b2, bUp HB1 b2 HB1.size⟩
  have HE := Lib.hid (ca_3 (g := callC k) ha hs)
  have HM := Lib.hid (mktB_iff.1 ha)
  have HI := Lib.hid hs
  have hn2 := HM.out.1.n2
  have HCL := Lib.hid (clmBy_length P F (callC k))
  have HCS := Lib.hid (clmBy_length P F shareC)
  have hen : (endL P).length ≤ 24 := Nat.le_trans (enTo_len P P.length) hn2
  have kb := inB_iff.1 hs
  rw [HE.out.1, HE.out.2]
  go_enter Try.func10, Try.ntmps10
  go_wp2_with fail
  refine (l6Market_is _ _ _ _ _ _ _ _ _ _ ha _ hv).mono ?_
  rintro e w2 ⟨rfl, b2⟩
  have HB2 := bUp HB1 b2 HB1.size
  have bx2 := bx.below b2
  have o2 := o1.below b2
  clear f0 f1 f2 f3
  obtain ⟨f0, f1, f2, f3⟩ := id bx2
  go_wp2_with fail
  refine (l1In_is _ _ _ _ hs _).mono ?_
  rintro e w' ⟨rfl, rfl⟩
  go_wp2_with fail
  refine (l6EndPrices_c A1 P c1 A2 W c2 A3 F c3 _ (h.below HB2 (Nat.le_refl _)) ha).mono ?_
  rintro e w4 ⟨Ae, ce, rfl, oe, b4⟩
  have O0 := Lib.hid (o2.below b4)
  have HB4 := bUp HB2 b4 HB2.size
  have HRE := Lib.hid oe
  have hap : ∀ b, blk (some ⟨w.heap.size + 1, 0, none⟩) = some b → blk Ae ≠ some b := fun b e1 e2 => by
    have := oe.ge b e2
    have := o2.ltk b e1
    omega
  have OE := Lib.hid (oe.mono (B' := w.heap.size) HB2.size)
  clear f0 f1 f2 f3 o2 HB1 HB2 b4 bx2 oe bx o1 hv b2 ha hs HRE
  rw [HCS.out]
  go_wp2_with fail
  go_loopw [6, 8] (fun o q wr => ∃ (i : Nat) (A : Option Addr) (c : Nat), i ≤ (endL P).length ∧ q = .int .i64 (i : Int) ∧ o = .slice A i c ∧ Own wr w.heap.size A c ((clmBy P F (callC k)).take i) ∧ Own wr w.heap.size Ae ce (clmBy P F shareC) ∧ (∀ b, blk A = some b → blk Ae ≠ some b) ∧ Below w.heap.size w wr) (fun _ q _ => (endL P).length - (intOf q).toNat)
  case atStart => exact ⟨0, _, 0, by omega, rfl, rfl, O0.out, OE.out, hap, HB4⟩
  case round =>
    clear O0 OE hap HB4
    obtain ⟨v, rfl⟩ : ∃ v : World, v = wr := ⟨_, rfl⟩
    obtain ⟨i, A, c, hi, rfl, rfl, o, oe, hap, hb⟩ := hrel
    have HO := Lib.hid o
    have HOE := Lib.hid oe
    have HAP := Lib.hid hap
    clear o hap
    by_cases hlt : i < (endL P).length
    · obtain ⟨ae, rfl, q1⟩ := oe.rd.intN (k := i) (by rw [HCS.out]; exact hlt)
      have HT : Hid ((clmBy P F (callC k)).take (i + 1) = (clmBy P F (callC k)).take i ++ [callC k (nth (clmBy P F shareC) i)]) := Lib.hid (by rw [clmBy_take hlt, clmBy_nth hlt]; rfl)
      have HTL : Hid (((clmBy P F (callC k)).take i).length = i) := Lib.hid (by rw [List.length_take, HCL.out]; omega)
      have pb : 0 ≤ nth (clmBy P F shareC) i ∧ nth (clmBy P F shareC) i ≤ 20 := by rw [clmBy_nth hlt]; exact F_nth HM.out.2.2 _
      have HMX := Lib.hid (mx_call k (nth (clmBy P F shareC) i))
      have hgv := hb.size
      clear oe
      generalize nth (clmBy P F shareC) i = p at *
      have hw : IntKind.i64.wrap (p - k) = p - k := IntWalk.i64_in _ (by omega)
      go_wp2_with fail
      refine (l1Most_c (p - k) 0 v).mono ?_
      rintro e w' ⟨rfl, rfl⟩
      rw [HMX.out]
      generalize callC k p = y at *
      go_wp2_with (at_builtin; refine wp_append1 v y _ rfl _ _ rfl w.heap.size A i c ((clmBy P F (callC k)).take i) rfl HTL.out.symm HO.out rfl (by rw [HTL.out]; omega) hgv ?_; intro A5 c5 v5 o5 g5 b5)
      go_roundw
      case rel => exact ⟨i + 1, A5, c5, by omega, by go_num, rfl, by rw [HT.out]; exact o5, HOE.out.grown g5 (ne_row2 HAP.out), fun b e1 e2 => by
        rcases b5 with t | ⟨r, t, hr⟩
        · exact HAP.out b (by rw [← t]; exact e1) e2
        · rw [t] at e1
          have e1 : r = b := Option.some.inj e1
          have := HOE.out.ltk b e2
          omega, hb.grown g5 hb.size (fun b e => HO.out.ge b e)⟩
      case measure => simp [intOf] <;> omega
    · obtain rfl : i = (endL P).length := by omega
      have HTA : Hid ((clmBy P F (callC k)).take (endL P).length = clmBy P F (callC k)) := Lib.hid (List.take_of_length_le (by rw [HCL.out]; exact Nat.le_refl _))
      go_wp2_with fail
      go_ret2
      exact ⟨A, c, by rw [HCL.out] <;> rfl, by rw [← HTA.out]; exact HO.out, hb⟩
theorem by_Put (P F : List Int) (k : Int) : ∀ i, i < (endL P).length → nth (clmBy P F (putC k)) i = putC k (nth (clmBy P F shareC) i) := fun i hi => by rw [clmBy_nth hi, clmBy_nth hi]; rfl
set_option maxRecDepth 20000 in
set_option maxHeartbeats 2000000 in
theorem specPut_c (A1 : Option Addr) (P : List Int) (c1 : Nat) (A2 : Option Addr) (W : List Int) (c2 : Nat) (A3 : Option Addr) (F : List Int) (c3 : Nat) (k : Int) (w : World) (h : RdM w A1 P A2 W A3 F) :
    Calls Try.prog 13 #[mkV A1 P.length c1 A2 W.length c2 A3 F.length c3, .int .i64 k] w (Gives w (caV P W F k (putC k)) (caB P W F k)) := by
  have HB1 : Below w.heap.size w ((w.alloc (.cells #[.slice A1 P.length c1, .slice A2 W.length c2, .slice A3 F.length c3] 28)).alloc (.cells #[] 3)) := ((Below.refl _ _).alloc (Nat.le_refl _) _).alloc (by simp) _
  have bx := (Bx3.new w (.slice A1 P.length c1) (.slice A2 W.length c2) (.slice A3 F.length c3) 28).alloc (.cells #[] 3)
  have o1 := (Own.lit (w.alloc (.cells #[.slice A1 P.length c1, .slice A2 W.length c2, .slice A3 F.length c3] 28)) [] (by decide)).mono (B' := w.heap.size) (by simp)
  have hv := h.below HB1 (Nat.le_refl _)
  simp only [World.size_alloc] at o1
  obtain ⟨f0, f1, f2, f3⟩ := id bx
  cases ha : mktB P W F
  · rw [(ca_1 (g := putC k) ha).1, (ca_1 (g := putC k) ha).2]
    go_enter Try.func13, Try.ntmps13
    go_wp2_with fail
    refine (l6Market_is _ _ _ _ _ _ _ _ _ _ ha _ hv).mono ?_
    rintro e w2 ⟨rfl, b2⟩
    go_wp2_with fail
    go_ret2
    exact ⟨_, 0, rfl, o1.below b2, bUp HB1 b2 HB1.size⟩
  cases hs : inB k 0 20
  · rw [(ca_2 (g := putC k) hs).1, (ca_2 (g := putC k) hs).2]
    go_enter Try.func13, Try.ntmps13
    go_wp2_with fail
    refine (l6Market_is _ _ _ _ _ _ _ _ _ _ ha _ hv).mono ?_
    rintro e w2 ⟨rfl, b2⟩
    go_wp2_with fail
    refine (l1In_is _ _ _ _ hs _).mono ?_
    rintro e w' ⟨rfl, rfl⟩
    go_wp2_with fail
    go_ret2
    exact ⟨_, 0, rfl, o1.below b2, bUp HB1 b2 HB1.size⟩
  have HE := Lib.hid (ca_3 (g := putC k) ha hs)
  have HM := Lib.hid (mktB_iff.1 ha)
  have HI := Lib.hid hs
  have hn2 := HM.out.1.n2
  have HCL := Lib.hid (clmBy_length P F (putC k))
  have HCS := Lib.hid (clmBy_length P F shareC)
  have hen : (endL P).length ≤ 24 := Nat.le_trans (enTo_len P P.length) hn2
  have kb := inB_iff.1 hs
  rw [HE.out.1, HE.out.2]
  go_enter Try.func13, Try.ntmps13
  go_wp2_with fail
  refine (l6Market_is _ _ _ _ _ _ _ _ _ _ ha _ hv).mono ?_
  rintro e w2 ⟨rfl, b2⟩
  have HB2 := bUp HB1 b2 HB1.size
  have bx2 := bx.below b2
  have o2 := o1.below b2
  clear f0 f1 f2 f3
  obtain ⟨f0, f1, f2, f3⟩ := id bx2
  go_wp2_with fail
  refine (l1In_is _ _ _ _ hs _).mono ?_
  rintro e w' ⟨rfl, rfl⟩
  go_wp2_with fail
  refine (l6EndPrices_c A1 P c1 A2 W c2 A3 F c3 _ (h.below HB2 (Nat.le_refl _)) ha).mono ?_
  rintro e w4 ⟨Ae, ce, rfl, oe, b4⟩
  have O0 := Lib.hid (o2.below b4)
  have HB4 := bUp HB2 b4 HB2.size
  have HRE := Lib.hid oe
  have hap : ∀ b, blk (some ⟨w.heap.size + 1, 0, none⟩) = some b → blk Ae ≠ some b := fun b e1 e2 => by
    have := oe.ge b e2
    have := o2.ltk b e1
    omega
  have OE := Lib.hid (oe.mono (B' := w.heap.size) HB2.size)
  clear f0 f1 f2 f3 o2 HB1 HB2 b4 bx2 oe bx o1 hv b2 ha hs HRE
  rw [HCS.out]
  go_wp2_with fail
  go_loopw [6, 8] (fun o q wr => ∃ (i : Nat) (A : Option Addr) (c : Nat), i ≤ (endL P).length ∧ q = .int .i64 (i : Int) ∧ o = .slice A i c ∧ Own wr w.heap.size A c ((clmBy P F (putC k)).take i) ∧ Own wr w.heap.size Ae ce (clmBy P F shareC) ∧ (∀ b, blk A = some b → blk Ae ≠ some b) ∧ Below w.heap.size w wr) (fun _ q _ => (endL P).length - (intOf q).toNat)
  case atStart => exact ⟨0, _, 0, by omega, rfl, rfl, O0.out, OE.out, hap, HB4⟩
  case round =>
    clear O0 OE hap HB4
    obtain ⟨v, rfl⟩ : ∃ v : World, v = wr := ⟨_, rfl⟩
    obtain ⟨i, A, c, hi, rfl, rfl, o, oe, hap, hb⟩ := hrel
    have HO := Lib.hid o
    have HOE := Lib.hid oe
    have HAP := Lib.hid hap
    clear o hap
    by_cases hlt : i < (endL P).length
    · obtain ⟨ae, rfl, q1⟩ := oe.rd.intN (k := i) (by rw [HCS.out]; exact hlt)
      have HT : Hid ((clmBy P F (putC k)).take (i + 1) = (clmBy P F (putC k)).take i ++ [putC k (nth (clmBy P F shareC) i)]) := Lib.hid (by rw [clmBy_take hlt, clmBy_nth hlt]; rfl)
      have HTL : Hid (((clmBy P F (putC k)).take i).length = i) := Lib.hid (by rw [List.length_take, HCL.out]; omega)
      have pb : 0 ≤ nth (clmBy P F shareC) i ∧ nth (clmBy P F shareC) i ≤ 20 := by rw [clmBy_nth hlt]; exact F_nth HM.out.2.2 _
      have HMX := Lib.hid (mx_put k (nth (clmBy P F shareC) i))
      have hgv := hb.size
      clear oe
      generalize nth (clmBy P F shareC) i = p at *
      have hw : IntKind.i64.wrap (k - p) = k - p := IntWalk.i64_in _ (by omega)
      go_wp2_with fail
      refine (l1Most_c (k - p) 0 v).mono ?_
      rintro e w' ⟨rfl, rfl⟩
      rw [HMX.out]
      generalize putC k p = y at *
      go_wp2_with (at_builtin; refine wp_append1 v y _ rfl _ _ rfl w.heap.size A i c ((clmBy P F (putC k)).take i) rfl HTL.out.symm HO.out rfl (by rw [HTL.out]; omega) hgv ?_; intro A5 c5 v5 o5 g5 b5)
      go_roundw
      case rel => exact ⟨i + 1, A5, c5, by omega, by go_num, rfl, by rw [HT.out]; exact o5, HOE.out.grown g5 (ne_row2 HAP.out), fun b e1 e2 => by
        rcases b5 with t | ⟨r, t, hr⟩
        · exact HAP.out b (by rw [← t]; exact e1) e2
        · rw [t] at e1
          have e1 : r = b := Option.some.inj e1
          have := HOE.out.ltk b e2
          omega, hb.grown g5 hb.size (fun b e => HO.out.ge b e)⟩
      case measure => simp [intOf] <;> omega
    · obtain rfl : i = (endL P).length := by omega
      have HTA : Hid ((clmBy P F (putC k)).take (endL P).length = clmBy P F (putC k)) := Lib.hid (List.take_of_length_le (by rw [HCL.out]; exact Nat.le_refl _))
      go_wp2_with fail
      go_ret2
      exact ⟨A, c, by rw [HCL.out] <;> rfl, by rw [← HTA.out]; exact HO.out, hb⟩
end Go.Proofs.Ytnhclpajfejnoaa
