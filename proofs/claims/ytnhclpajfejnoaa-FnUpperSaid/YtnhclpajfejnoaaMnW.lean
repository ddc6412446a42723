/- MeansOf: both, for valid trees and pays. -/
import Derived.Test.YtnhclpajfejnoaaUpK
import Derived.Test.YtnhclpajfejnoaaAfW
import Derived.WalkLawsBesides
import Derived.Deep.DeepCutAuto
namespace Go.Proofs.Ytnhclpajfejnoaa
open Go.RowKit

def abL (xs : List Int) : List Int := xs.map fun x => (x.natAbs : Int)
theorem abL_length (xs : List Int) : (abL xs).length = xs.length := by simp [abL]
theorem abL_nth (xs : List Int) (i : Nat) : nth (abL xs) i = ((nth xs i).natAbs : Int) := by
  by_cases hi : i < xs.length
  · rw [nth_eq (by rw [abL_length]; exact hi), nth_eq hi]
    simp [abL]
  · rw [nth_big (by rw [abL_length]; omega), nth_big (by omega)]
    rfl
theorem gat_ab (P xs : List Int) : ∀ m i, ((nth (gat P xs m) i).natAbs : Int) ≤ nth (gat P (abL xs) m) i
  | 0, i => by rw [gat, gat, abL_nth]; exact Int.le_refl _
  | m + 1, i => by
    have ih := gat_ab P xs m
    rw [gat, gat, abL_length]
    by_cases hi : i < xs.length
    · by_cases e : (nth P (xs.length - 1 - m)).toNat = i
      · subst e
        rw [nth_set_self (by rw [gat_length]; exact hi), nth_set_self (by rw [gat_length, abL_length]; exact hi)]
        have h1 := ih (nth P (xs.length - 1 - m)).toNat
        have h2 := ih (xs.length - 1 - m)
        omega
      · rw [nth_set_ne e, nth_set_ne e]
        exact ih i
    · rw [nth_big (by simp [gat_length]; omega), nth_big (by simp [gat_length, abL_length]; omega)]
      exact Int.le_refl _
theorem gatY_bz {P xs : List Int} (hp : ParOk P) (hl : xs.length = P.length) (hn : ∀ i, -20000 ≤ nth xs i ∧ nth xs i ≤ 20000) (h24 : P.length ≤ 24) (h1 : 1 ≤ P.length) (y i : Nat) : -480000 ≤ nth (gatY P xs y) i ∧ nth (gatY P xs y) i ≤ 480000 := by
  have h := (gat_ok hp (xs := abL xs) (by rw [abL_length, hl]) (fun i => by rw [abL_nth]; omega) (xs.length - 1 - y) (by rw [abL_length]; omega)).1 i
  have h2 : sm (abL xs) ≤ 20000 * ((abL xs).length : Int) := sm_le fun i => by
    have := hn i
    rw [abL_nth]
    omega
  rw [abL_length] at h2
  have h3 := gat_ab P xs (xs.length - 1 - y) i
  unfold gatY
  omega
set_option maxRecDepth 20000 in
set_option maxHeartbeats 1000000 in
theorem gatheredZ_c (A1 : Option Addr) (P : List Int) (c1 : Nat) (A2 : Option Addr) (n2 c2 : Nat) (A3 : Option Addr) (xs : List Int) (c3 : Nat) (w : World) (h1 : Rd w A1 (ints P)) (h3 : Rd w A3 (ints xs)) (hp : ParOk P) (hn1 : 1 ≤ P.length) (hn : P.length ≤ 24) (hl : xs.length = P.length) (hx : ∀ i, -20000 ≤ nth xs i ∧ nth xs i ≤ 20000) :
    Calls Try.prog 86 #[trV A1 P.length c1 A2 n2 c2, .slice A3 xs.length c3] w (Row w (gath P xs)) := by
  have HB1 : Below w.heap.size w (w.alloc (.cells #[.slice A1 P.length c1, .slice A2 n2 c2] 26)) := (Below.refl _ _).alloc (Nat.le_refl _) _
  have bx := Bx.new w (.slice A1 P.length c1) (.slice A2 n2 c2) 26
  have HL := Lib.hid hl
  have hx1 : 1 ≤ xs.length := by omega
  have hx24 : xs.length ≤ 24 := by omega
  clear hl
  go_enter Try.func86, Try.ntmps86
  go_wp2_with fail
  refine (copied_c A3 xs c3 _ (h3.below HB1 (Nat.le_refl _)) (by omega)).mono ?_
  rintro e w2 ⟨A, c, rfl, ho, hb2⟩
  have HB2 := bUp HB1 hb2 HB1.size
  have bx2 := bx.below hb2
  obtain ⟨g, rfl, hg1, hg2⟩ := ho.form (by omega)
  have hgg : w.heap.size < g := by simp at hg1; omega
  have e5 : (xs.length : Int) - 1 = ((xs.length - 1 : Nat) : Int) := by omega
  have ho' : Own w2 (w.heap.size + 1) (some ⟨g, 0, none⟩) c (gatY P xs (xs.length - 1)) := by rw [gatY_last]; exact ho.mono (by simp)
  clear bx hb2 HB1 ho
  go_wp2
  go_loopw [6] (fun i wr => ∃ y : Nat, y < xs.length ∧ i = .int .i64 (y : Int) ∧ Own wr (w.heap.size + 1) (some ⟨g, 0, none⟩) c (gatY P xs y) ∧ Bx wr w.heap.size (.slice A1 P.length c1) (.slice A2 n2 c2) ∧ Below w.heap.size w wr) (fun i _ => (intOf i).toNat)
  case atStart => exact ⟨xs.length - 1, by omega, by simp <;> omega, ho', bx2, HB2⟩
  case round =>
    obtain ⟨wo, rfl⟩ : ∃ wo : World, wo = wr := ⟨_, rfl⟩
    obtain ⟨y, hy, rfl, hoy, hxx, hB⟩ := hrel
    clear ho' bx2 HB2 e5
    have hx' := hxx
    obtain ⟨f0, f1, f2, f3, f4⟩ := hxx
    by_cases hy0 : 0 < y
    · have hup := hp.up y hy0 (by have := HL.out; omega)
      obtain ⟨p, hpp⟩ : ∃ p : Nat, nth P y = (p : Int) := ⟨(nth P y).toNat, by omega⟩
      have hpy : p < y := by omega
      have HS := Lib.hid (gatY_step hy0 hy hpp)
      obtain ⟨a1, rfl, q1⟩ := (h1.below hB (Nat.le_refl _)).intN (k := y) (by have := HL.out; omega)
      rw [hpp] at q1
      have hly := gatY_length P xs y
      have qp := hoy.cellN (k := p) (by omega)
      have qy := hoy.cellN (k := y) (by omega)
      have hfp := hoy.frozen p
      have hst := hoy.set p (nth (gatY P xs y) p + nth (gatY P xs y) y)
      rw [← HS.out] at hst
      have b1 := gatY_bz hp HL.out hx hn hn1 y p
      have b2 := gatY_bz hp HL.out hx hn hn1 y y
      have e1 : IntKind.i64.wrap (nth (gatY P xs y) p + nth (gatY P xs y) y) = nth (gatY P xs y) p + nth (gatY P xs y) y := IntWalk.i64_in _ (by omega)
      have i1 : (0 : Int) ≤ (p : Int) := by omega
      have i2 : (p : Int) < (xs.length : Int) := by omega
      have i3 : (0 : Int) ≤ (y : Int) := by omega
      have i4 : (y : Int) < (P.length : Int) := by have := HL.out; omega
      have i5 : (y : Int) < (xs.length : Int) := by omega
      have e6 : (y : Int) - 1 = ((y - 1 : Nat) : Int) := by omega
      have HB3 := (hB.grown hst.2 hB.size (fun k hk => by cases hk; omega)).drew
      have hx3 := (hx'.grown hst.2 (by simp; omega))
      clear hpp hup hly
      go_wp2
      refine wp_region_still_tail 14 (by kernel_rfl) (by kernel_rfl) ?_
      simp only [List.take_succ_cons, List.take_zero, List.drop_succ_cons, List.drop_zero]
      repeat still_step
      refine wpStill_nil ?_
      change wpList _ _ _ _ _ wo.drew
      go_wp2
      go_roundw
      case rel => exact ⟨y - 1, by omega, by simp <;> omega, hst.1, hx3.drewN 1, HB3⟩
      case measure => simp [intOf] <;> omega
    · obtain rfl : y = 0 := by omega
      rw [gatY_zero] at hoy
      have hgl := Lib.hid (gath_length P xs)
      go_wp2
      go_ret
      exact ⟨_, _, by rw [hgl.out] <;> rfl, hoy.mono (by omega), hB⟩

/-- It answers a row of its own of n numbers. -/
def RowZ (w : World) (n : Nat) (xs : List Int) (e : Ending) (w' : World) : Prop :=
  ∃ A c, e = .returned (.slice A n c) ∧ Own w' w.heap.size A c xs ∧ Below w.heap.size w w'
theorem rowZ {w w' : World} {xs : List Int} {e : Ending} {n : Nat} (h : Row w xs e w') (hn : xs.length = n) : RowZ w n xs e w' := by
  subst hn
  exact h
theorem sumsZ_c (A1 : Option Addr) (P : List Int) (c1 : Nat) (A2 : Option Addr) (W : List Int) (c2 : Nat) (w : World) (h1 : Rd w A1 (ints P)) (h2 : Rd w A2 (ints W)) (h : TreeOk P W) :
    Calls Try.prog 137 #[trV A1 P.length c1 A2 W.length c2] w (RowZ w P.length (gath P W)) := by
  have HB1 : Below w.heap.size w (w.alloc (.cells #[.slice A1 P.length c1, .slice A2 W.length c2] 26)) := (Below.refl _ _).alloc (Nat.le_refl _) _
  have bx := Bx.new w (.slice A1 P.length c1) (.slice A2 W.length c2) 26
  have HL := Lib.hid h.len
  have hn1 := h.n1
  have hn := h.n2
  have hpar := h.par
  have hw0 := h.w0
  have HG := Lib.hid (show (gath P W).length = P.length by rw [gath_length, h.len])
  obtain ⟨f0, f1, f2, f3, f4⟩ := id bx
  go_enter Try.func137, Try.ntmps137
  go_wp2_with fail
  refine (gathered_c A1 P c1 A2 W.length c2 A2 W c2 _ (h1.below HB1 (Nat.le_refl _)) (h2.below HB1 (Nat.le_refl _)) hpar hn1 hn HL.out hw0).mono ?_
  rintro e w2 ⟨A, c, rfl, ho, hb2⟩
  have HB2 := bUp HB1 hb2 HB1.size
  rw [HG.out]
  go_wp2
  go_ret
  exact ⟨A, c, rfl, ho.mono (by simp), HB2⟩
theorem pay_bd {P W V : List Int} (h : TreeOk P W) (ha : allB V (-999) 999 = true) (i j : Nat) : -20000 ≤ nth W j * nth V i ∧ nth W j * nth V i ≤ 20000 := by
  have h1 := h.w0 j
  have h2 : -999 ≤ nth V i ∧ nth V i ≤ 999 := by
    by_cases hi : i < V.length
    · exact allB_nth ha hi
    · rw [nth_big (by omega)]; omega
  have := mulAbs2 (A := 20) (B := 999) (x := nth W j) (y := nth V i) (by omega) (by omega) (by decide) (by decide)
  omega
theorem tot_bd {P W V : List Int} (h : TreeOk P W) (ha : allB V (-999) 999 = true) (i : Nat) : -20000 ≤ nth (atE P (wvL P W V)) i ∧ nth (atE P (wvL P W V)) i ≤ 20000 := by
  rcases Nat.lt_or_ge i P.length with hx | hx
  · cases he : endB P i
    · rw [atE_in he]; omega
    · obtain ⟨k, hk, e⟩ := end_idx hx he
      have := atE_end (P := P) (X := wvL P W V) hk
      rw [e, Int.toNat_natCast] at this
      rw [this, wvL_nth hk]
      exact pay_bd h ha _ _
  · rw [nth_big (by rw [atE_length]; omega)]; omega
set_option maxRecDepth 20000 in
set_option maxHeartbeats 1000000 in
theorem spread_c (A1 : Option Addr) (P : List Int) (c1 : Nat) (A2 : Option Addr) (W : List Int) (c2 : Nat) (A3 : Option Addr) (V : List Int) (c3 : Nat) (w : World) (h1 : Rd w A1 (ints P)) (h2 : Rd w A2 (ints W)) (h3 : Rd w A3 (ints V)) (h : TreeOk P W) (hl : V.length = (endL P).length) (ha : allB V (-999) 999 = true) :
    Calls Try.prog 136 #[trV A1 P.length c1 A2 W.length c2, .slice A3 V.length c3] w (RowZ w P.length (atE P (wvL P W V))) := by
  have HB1 : Below w.heap.size w (w.alloc (.cells #[.slice A1 P.length c1, .slice A2 W.length c2] 26)) := (Below.refl _ _).alloc (Nat.le_refl _) _
  have bx := Bx.new w (.slice A1 P.length c1) (.slice A2 W.length c2) 26
  have HT := Lib.hid h
  have HA := Lib.hid ha
  have HX := Lib.hid hl
  have hn1 := h.n1
  have hn2 := h.n2
  have hle := enTo_len P P.length
  change (endL P).length ≤ _ at hle
  clear hl ha
  obtain ⟨f0, f1, f2, f3, f4⟩ := id bx
  go_enter Try.func136, Try.ntmps136
  go_wp2_with (at_make; refine wp_make_intsH _ (w.heap.size + 1) (by simp) rfl _ _ rfl _ _ _ _ P.length rfl rfl rfl rfl (by omega) ?_; intro w2 ho2 hb2; have HB2 := bUp HB1 hb2 HB1.size; have bx2 := bx.below hb2; clear f0 f1 f2 f3 f4; obtain ⟨f0, f1, f2, f3, f4⟩ := id bx2)
  refine (ends_c _ _ _ _ _ _ _ (h1.below HB2 (Nat.le_refl _)) HT.out.par HT.out.n1 HT.out.n2).mono ?_
  rintro e w3 ⟨Ae, ce, rfl, oe, hb3⟩
  have HB3 := bUp HB2 hb3 HB2.size
  have bx3 := bx2.below hb3
  have ho3 := ho2.below hb3
  have hne := ho2.apartR oe (Nat.le_refl _)
  clear f0 f1 f2 f3 f4 bx bx2 hb2 hb3 ho2
  go_wp2
  go_loopw [15] (fun i wr => ∃ k : Nat, k ≤ (endL P).length ∧ i = .int .i64 (k : Int) ∧ Own wr (w.heap.size + 1) (some ⟨w.heap.size + 1, 0, none⟩) P.length (putE P (wvL P W V) (List.replicate P.length 0) k) ∧ Own wr w2.heap.size Ae ce (endL P) ∧
      Bx wr w.heap.size (.slice A1 P.length c1) (.slice A2 W.length c2) ∧ Below w.heap.size w wr) (fun i _ => (endL P).length - (intOf i).toNat)
  case atStart => exact ⟨0, by omega, rfl, ho3, oe, bx3, HB3⟩
  case round =>
    obtain ⟨wo, rfl⟩ : ∃ wo : World, wo = wr := ⟨_, rfl⟩
    obtain ⟨k, hk, rfl, ho, pe, hxx, hB⟩ := hrel
    clear ho3 oe bx3 HB3
    have hx' := hxx
    obtain ⟨f0, f1, f2, f3, f4⟩ := hxx
    by_cases hlt : k < (endL P).length
    · obtain ⟨j, hj, hje, hjn⟩ := endL_nth hlt
      obtain ⟨ae, rfl, qe⟩ := pe.rd.intN hlt
      rw [hjn] at qe
      obtain ⟨a3, rfl, q3⟩ := (h3.below hB (Nat.le_refl _)).intN (k := k) (by have := HX.out; omega)
      obtain ⟨a2, rfl, q2⟩ := (h2.below hB (Nat.le_refl _)).intN (k := j) (by have := HT.out.len; omega)
      have i1 : (k : Int) < (V.length : Int) := by have := HX.out; omega
      have i2 : (j : Int) < (P.length : Int) := by omega
      have i3 : (j : Int) < (W.length : Int) := by have := HT.out.len; omega
      have j0 : (0 : Int) ≤ (j : Int) := by omega
      have k0 : (0 : Int) ≤ (k : Int) := by omega
      have BD := pay_bd HT.out HA.out k j
      have e1 : IntKind.i64.wrap (nth V k * nth W j) = nth V k * nth W j := by rw [Int.mul_comm]; exact IntWalk.i64_in _ (by omega)
      obtain ⟨u0, hco⟩ := ho.some_ (k := j) (by rw [putE_length]; simp; exact hj)
      have hfo := ho.frozen j
      have hst := ho.set j (nth V k * nth W j)
      have hS : putE P (wvL P W V) (List.replicate P.length 0) (k + 1) = (putE P (wvL P W V) (List.replicate P.length 0) k).set j (nth V k * nth W j) := by rw [putE, hjn, Int.toNat_natCast, wvL_nth hlt, hjn, Int.toNat_natCast, Int.mul_comm]
      rw [← hS] at hst
      have pe3 := pe.grown hst.2 (by simpa [blk] using hne)
      have hx3 := hx'.grown hst.2 (by simp)
      have hB3 := hB.grown hst.2 hB.size (fun k hk => by have := Option.some.inj hk; omega)
      clear hS hjn BD
      go_wp2
      refine wp_region_still_tail 13 (by kernel_rfl) (by kernel_rfl) ?_
      simp only [List.take_succ_cons, List.take_zero, List.drop_succ_cons, List.drop_zero]
      repeat still_step
      refine wpStill_nil ?_
      change wpList _ _ _ _ _ wo.drew
      go_wp2
      go_roundw
      case rel => exact ⟨k + 1, by omega, by go_num, hst.1.drew, pe3.drew, hx3.drewN 1, hB3.drew⟩
      case measure => simp [intOf] <;> omega
    · have hkn : k = (endL P).length := by omega
      subst hkn
      go_wp2
      go_ret
      exact ⟨_, _, rfl, ho.mono (by omega), hB⟩

theorem sN_ge1 {f : Nat → Int} {k n : Nat} (hk : k < n) (h : ∀ i, i < n → 0 ≤ f i) (h1 : 1 ≤ f k) : 1 ≤ sN f n := by
  have e := sN_one (f := fun i => if i = k then (1 : Int) else 0) hk (fun i _ hn => if_neg hn)
  rw [if_pos rfl] at e
  rw [← e]
  refine sN_le fun i hi => ?_
  split
  · rename_i h'; subst h'; exact h1
  · exact h i hi
theorem gath_posZ {P W : List Int} (h : TreeOk P W) : ∀ n x, P.length - x ≤ n → x < P.length → 1 ≤ nth (gath P W) x
  | 0, x, h0, hx => by omega
  | n + 1, x, h0, hx => by
    cases he : endB P x
    · obtain ⟨z, hz⟩ := List.exists_mem_of_ne_nil (kids P (x : Int)) (fun h' => by rw [(kids_nil x).1 h'] at he; cases he)
      obtain ⟨j, hj, hpj, rfl⟩ := mem_kidTo.1 hz
      have hj0 : 0 < j := by
        rcases Nat.eq_zero_or_pos j with rfl | h'
        · have := h.par.zero; omega
        · exact h'
      have hu := h.par.up j hj0 hj
      have ih := gath_posZ h n j (by omega) hj
      have hw := h.wt x hx
      rw [he] at hw
      simp only [Bool.false_eq_true, if_false] at hw
      rw [gath_eq h.par h.len h.n1 x, hw, Int.zero_add]
      refine sN_ge1 hj (fun i _ => ?_) (by rw [if_pos hpj]; exact ih)
      split
      · exact (h.sum_bd i).1
      · exact Int.le_refl _
    · rw [gath_end h.par h.len h.n1 he]
      have hw := h.wt x hx
      rw [he] at hw
      simp only [if_true] at hw
      exact hw.1
theorem lw_cut {a b : Int} (hb : 0 < b) (h1 : -1000000000 ≤ a) (h2 : a ≤ 1000000000) (h3 : b ≤ 1000000) : lwT a b = cutT a b ∧ lwB a b = cutB a b := by
  have T := cutT_bd hb (M := 1000000000) h1 h2
  have B := cutB_bd (a := a) hb h3
  have hok : lwOk a b = true := by rw [lwOk_eq hb, inB_iff.2 T]; simpa using B.2
  have HT := tdiv_gI_left a b
  unfold lwOk at hok
  have e : b / gI a b = cutB a b := rfl
  rw [← HT, ← e]
  simp [lwT, lwB, kpT, kpB, hok, HT, e]
def mnTo (P W V : List Int) (k : Nat) : List (Int × Int) := (List.range k).map (mnP P W V)
theorem mnTo_succ (P W V : List Int) (k : Nat) : mnTo P W V (k + 1) = mnTo P W V k ++ [mnP P W V k] := by simp [mnTo, List.range_succ]
theorem mnTo_length (P W V : List Int) (k : Nat) : (mnTo P W V k).length = k := by simp [mnTo]
theorem gatheredN_c (A1 : Option Addr) (P : List Int) (c1 : Nat) (A2 : Option Addr) (n2 c2 : Nat) (A3 : Option Addr) (xs : List Int) (c3 n : Nat) (w : World) (hn : xs.length = n) (h1 : Rd w A1 (ints P)) (h3 : Rd w A3 (ints xs)) (hp : ParOk P) (hn1 : 1 ≤ P.length) (hn2 : P.length ≤ 24) (hl : xs.length = P.length) (hx : ∀ i, -20000 ≤ nth xs i ∧ nth xs i ≤ 20000) :
    Calls Try.prog 86 #[trV A1 P.length c1 A2 n2 c2, .slice A3 n c3] w (RowZ w n (gath P xs)) := by
  subst hn
  exact (gatheredZ_c A1 P c1 A2 n2 c2 A3 xs c3 w h1 h3 hp hn1 hn2 hl hx).mono fun _ _ h => rowZ h (gath_length P xs)
/-- What means has made ahead of its loop. -/
def MnM (w wx : World) (P W V : List Int) (s5 s6 s7 : Value) : Prop := ∃ (A5 : Option Addr) (g5 c5 : Nat) (A6 : Option Addr) (c6 : Nat) (A7 : Option Addr) (c7 : Nat), A5 = some ⟨g5, 0, none⟩ ∧ s5 = .slice A5 0 c5 ∧ s6 = .slice A6 P.length c6 ∧ s7 = .slice A7 P.length c7 ∧
  OwnP wx (w.heap.size + 1) A5 c5 [] ∧ Own wx (w.heap.size + 1) A6 c6 (totL P W V) ∧ Own wx (w.heap.size + 1) A7 c7 (gath P W) ∧ (blk A6 ≠ some g5 ∧ blk A7 ≠ some g5) ∧ Below w.heap.size w wx
set_option maxRecDepth 20000 in
set_option maxHeartbeats 2000000 in
theorem means_c (A1 : Option Addr) (P : List Int) (c1 : Nat) (A2 : Option Addr) (W : List Int) (c2 : Nat) (A3 : Option Addr) (V : List Int) (c3 : Nat) (w : World) (h1 : Rd w A1 (ints P)) (h2 : Rd w A2 (ints W)) (h3 : Rd w A3 (ints V)) (h : TreeOk P W) (hl : V.length = (endL P).length) (ha : allB V (-999) 999 = true) :
    Calls Try.prog 120 #[trV A1 P.length c1 A2 W.length c2, .slice A3 V.length c3] w fun e w' => ∃ A c, e = .returned (.slice A P.length c) ∧ OwnP w' w.heap.size A c (mnL P W V) ∧ Below w.heap.size w w' := by
  have HB1 : Below w.heap.size w (w.alloc (.cells #[.slice A1 P.length c1, .slice A2 W.length c2] 26)) := (Below.refl _ _).alloc (Nat.le_refl _) _
  have bx := Bx.new w (.slice A1 P.length c1) (.slice A2 W.length c2) 26
  have HT := Lib.hid h
  have HA := Lib.hid ha
  have HX := Lib.hid hl
  have hn1 := h.n1
  have hn2 := h.n2
  have HZ : Hid ((w.alloc (.cells #[.slice A1 P.length c1, .slice A2 W.length c2] 26)).heap.size = w.heap.size + 1) := Lib.hid (by simp)
  clear hl ha
  go_enter Try.func120, Try.ntmps120
  go_upto_region 1 with fail
  generalize w.alloc (.cells #[.slice A1 P.length c1, .slice A2 W.length c2] 26) = v at *
  go_cut [5, 6, 7] (fun s5 s6 s7 wx => MnM w wx P W V s5 s6 s7)
  case first =>
    obtain ⟨f0, f1, f2, f3, f4⟩ := id bx
    have r1 := h1.below HB1 (Nat.le_refl _)
    have r2 := h2.below HB1 (Nat.le_refl _)
    have r3 := h3.below HB1 (Nat.le_refl _)
    have R1 := Lib.hid r1
    have R2 := Lib.hid r2
    have R3 := Lib.hid r3
    have HBv := Lib.hid HB1
    clear bx h1 h2 h3 r1 r2 r3 HB1
    have hd1 : Below v.heap.size v v.drew := Below.drew (Below.refl _ _)
    have SK1 : Hid (∀ w', Below v.heap.size v w' → w'.cell? ⟨w.heap.size, 0, none⟩ = some (.slice A1 P.length c1) ∧ w'.cell? ⟨w.heap.size, 1, none⟩ = some (.slice A2 W.length c2)) := Lib.hid fun w' HV => ⟨(HV.cell (p := ⟨w.heap.size, 0, none⟩) f4).trans f0, (HV.cell (p := ⟨w.heap.size, 1, none⟩) f4).trans f1⟩
    clear f0 f1 f2 f3
    have hS1_0 := SK1.out _ hd1
    refine tamed_region (S := fun w' => w'.cell? ⟨w.heap.size, 0, none⟩ = some (.slice A1 P.length c1) ∧ w'.cell? ⟨w.heap.size, 1, none⟩ = some (.slice A2 W.length c2)) (fun _ => false) (by kernel_rfl) ?_
    refine tame (k := 1) ?_ rfl (by kernel_rfl) (by kernel_rfl) (by kernel_rfl) (by kernel_rfl) (fun _ _ _ h => h) (by kernel_rfl) hS1_0 (fun v hv => ?_) ?_
    rotate_left
    · (obtain ⟨k1, k2⟩ := hv; go_simp; all_goals rfl)
    simp only [Act.put, List.setIfInBounds_toArray]
    refine tame (k := 2) ?_ rfl (by kernel_rfl) (by kernel_rfl) (by kernel_rfl) (by kernel_rfl) (fun _ _ _ h => h) (by kernel_rfl) hS1_0 (fun v hv => ?_) ?_
    rotate_left
    · (obtain ⟨k1, k2⟩ := hv; go_simp; all_goals rfl)
    simp only [Act.put]
    refine tame0 (k := 3) ?_ rfl (by kernel_rfl) (by kernel_rfl) (by kernel_rfl) (fun _ _ _ h => h) (by kernel_rfl) (fun v => ?_) ?_
    rotate_left
    · (go_simp; all_goals rfl)
    simp only [Act.put]
    refine tame (k := 6) ?_ rfl (by kernel_rfl) (by kernel_rfl) (by kernel_rfl) (by kernel_rfl) (fun _ _ _ h => h) (by kernel_rfl) hS1_0 (fun v hv => ?_) ?_
    rotate_left
    · (obtain ⟨k1, k2⟩ := hv; go_simp; all_goals rfl)
    simp only [Act.put]
    have hS9 := Lib.hid hS1_0
    clear hS1_0
    refine tame_two (i := 0) (j := 4) (by kernel_rfl) rfl rfl (by kernel_rfl) (by kernel_rfl) ?_ ?_
    · go_simp
      have K1 := hd1.alloc (Nat.le_refl _) (.cells #[] 40)
      have op := (OwnP.lit v.drew [] (by simp)).mono (B' := w.heap.size + 1) (Nat.le_trans (Nat.le_of_eq HZ.out.symm) hd1.size)
      have lp : v.drew.heap.size < (v.drew.alloc (.cells #[] 40)).heap.size := by simp
      refine ⟨by first | exact SK1.out _ K1 | exact SK1.out _ hd1 | exact SK1.out _ (Below.refl _ _), ?_⟩
      refine tame_one (k := 4) (by kernel_rfl) rfl (by kernel_rfl) ?_
      go_simp
      refine (spread_c A1 P c1 A2 W c2 A3 V c3 _ (R1.out.below K1 (Nat.le_refl _)) (R2.out.below K1 (Nat.le_refl _)) (R3.out.below K1 (Nat.le_refl _)) HT.out HX.out HA.out).mono ?_
      rintro e u2 ⟨A4, c4, rfl, o4, b2⟩
      have K2 := bUp K1 b2 K1.size
      have op := op.below b2
      have lp := Nat.lt_of_lt_of_le lp b2.size
      refine ⟨by first | exact SK1.out _ K2, ?_⟩
      refine tame_one (k := 5) (by kernel_rfl) rfl (by kernel_rfl) ?_
      go_simp
      refine (gatheredN_c A1 P c1 A2 W.length c2 A4 (atE P (wvL P W V)) c4 P.length _ (atE_length _ _) (R1.out.below K2 (Nat.le_refl _)) o4.rd HT.out.par hn1 hn2 (atE_length _ _) (tot_bd HT.out HA.out)).mono ?_
      rintro e u3 ⟨A6, c6, rfl, o6, b3⟩
      have K3 := bUp K2 b3 K2.size
      have op := op.below b3
      have n6 : blk A6 ≠ some v.drew.heap.size := fun e => by have h' := o6.ge _ e; have := lp; omega
      have lp := Nat.lt_of_lt_of_le lp b3.size
      have o6 := o6.mono (B' := w.heap.size + 1) (Nat.le_trans (Nat.le_of_eq HZ.out.symm) K2.size)
      refine ⟨by first | exact SK1.out _ K3, ?_⟩
      refine tame_one (k := 7) (by kernel_rfl) rfl (by kernel_rfl) ?_
      go_simp
      refine (sumsZ_c A1 P c1 A2 W c2 _ (R1.out.below K3 (Nat.le_refl _)) (R2.out.below K3 (Nat.le_refl _)) HT.out).mono ?_
      rintro e u4 ⟨A7, c7, rfl, o7, b4⟩
      have K4 := bUp K3 b4 K3.size
      have o6 := o6.below b4
      have op := op.below b4
      have n7 : blk A7 ≠ some v.drew.heap.size := fun e => by have h' := o7.ge _ e; have := lp; omega
      have lp := Nat.lt_of_lt_of_le lp b4.size
      have o7 := o7.mono (B' := w.heap.size + 1) (Nat.le_trans (Nat.le_of_eq HZ.out.symm) K3.size)
      refine ⟨by first | exact SK1.out _ K4, ?_⟩
      have FH := Lib.hid (And.intro K4 (show MnM w u4 P W V _ _ _ from ⟨_, v.drew.heap.size, _, A6, c6, A7, c7, rfl, rfl, rfl, rfl, op, o6, o7, ⟨n6, n7⟩, bUp HBv.out K4 (by have := HZ.out; omega)⟩))
      refine tame_one (k := 8) (by kernel_rfl) rfl (by kernel_rfl) ?_
      go_simp
      refine ⟨by first | exact SK1.out _ K4 | exact SK1.out _ FH.out.1, ?_⟩
      refine tame_one (k := 9) (by kernel_rfl) rfl (by kernel_rfl) ?_
      go_simp
      refine ⟨by first | exact SK1.out _ K4 | exact SK1.out _ FH.out.1, ?_⟩
      refine tame_one (k := 10) (by kernel_rfl) rfl (by kernel_rfl) ?_
      go_simp
      refine ⟨by first | exact SK1.out _ K4 | exact SK1.out _ FH.out.1, ?_⟩
      refine tame_end (by kernel_rfl) ?_
      go_wp2_with fail
      go_meet
      exact FH.out.2
    · go_simp
      refine (spread_c A1 P c1 A2 W c2 A3 V c3 _ (R1.out.below hd1 (Nat.le_refl _)) (R2.out.below hd1 (Nat.le_refl _)) (R3.out.below hd1 (Nat.le_refl _)) HT.out HX.out HA.out).mono ?_
      rintro e u5 ⟨A4, c4, rfl, o4, b5⟩
      have K5 := bUp hd1 b5 (Nat.le_refl _)
      refine ⟨by first | exact SK1.out _ K5, ?_⟩
      refine tame_two (i := 0) (j := 5) (by kernel_rfl) rfl rfl (by kernel_rfl) (by kernel_rfl) ?_ ?_
      · go_simp
        have K6 := K5.alloc K5.size (.cells #[] 40)
        have o4 := o4.alloc (.cells #[] 40)
        have op := (OwnP.lit u5 [] (by simp)).mono (B' := w.heap.size + 1) (Nat.le_trans (Nat.le_of_eq HZ.out.symm) K5.size)
        have lp : u5.heap.size < (u5.alloc (.cells #[] 40)).heap.size := by simp
        refine ⟨by first | exact SK1.out _ K6 | exact SK1.out _ K5 | exact SK1.out _ (Below.refl _ _), ?_⟩
        refine tame_one (k := 5) (by kernel_rfl) rfl (by kernel_rfl) ?_
        go_simp
        refine (gatheredN_c A1 P c1 A2 W.length c2 A4 (atE P (wvL P W V)) c4 P.length _ (atE_length _ _) (R1.out.below K6 (Nat.le_refl _)) o4.rd HT.out.par hn1 hn2 (atE_length _ _) (tot_bd HT.out HA.out)).mono ?_
        rintro e u7 ⟨A6, c6, rfl, o6, b7⟩
        have K7 := bUp K6 b7 K6.size
        have op := op.below b7
        have n6 : blk A6 ≠ some u5.heap.size := fun e => by have h' := o6.ge _ e; have := lp; omega
        have lp := Nat.lt_of_lt_of_le lp b7.size
        have o6 := o6.mono (B' := w.heap.size + 1) (Nat.le_trans (Nat.le_of_eq HZ.out.symm) K6.size)
        refine ⟨by first | exact SK1.out _ K7, ?_⟩
        refine tame_one (k := 7) (by kernel_rfl) rfl (by kernel_rfl) ?_
        go_simp
        refine (sumsZ_c A1 P c1 A2 W c2 _ (R1.out.below K7 (Nat.le_refl _)) (R2.out.below K7 (Nat.le_refl _)) HT.out).mono ?_
        rintro e u8 ⟨A7, c7, rfl, o7, b8⟩
        have K8 := bUp K7 b8 K7.size
        have o6 := o6.below b8
        have op := op.below b8
        have n7 : blk A7 ≠ some u5.heap.size := fun e => by have h' := o7.ge _ e; have := lp; omega
        have lp := Nat.lt_of_lt_of_le lp b8.size
        have o7 := o7.mono (B' := w.heap.size + 1) (Nat.le_trans (Nat.le_of_eq HZ.out.symm) K7.size)
        refine ⟨by first | exact SK1.out _ K8, ?_⟩
        have FH := Lib.hid (And.intro K8 (show MnM w u8 P W V _ _ _ from ⟨_, u5.heap.size, _, A6, c6, A7, c7, rfl, rfl, rfl, rfl, op, o6, o7, ⟨n6, n7⟩, bUp HBv.out K8 (by have := HZ.out; omega)⟩))
        refine tame_one (k := 8) (by kernel_rfl) rfl (by kernel_rfl) ?_
        go_simp
        refine ⟨by first | exact SK1.out _ K8 | exact SK1.out _ FH.out.1, ?_⟩
        refine tame_one (k := 9) (by kernel_rfl) rfl (by kernel_rfl) ?_
        go_simp
        refine ⟨by first | exact SK1.out _ K8 | exact SK1.out _ FH.out.1, ?_⟩
        refine tame_one (k := 10) (by kernel_rfl) rfl (by kernel_rfl) ?_
        go_simp
        refine ⟨by first | exact SK1.out _ K8 | exact SK1.out _ FH.out.1, ?_⟩
        refine tame_end (by kernel_rfl) ?_
        go_wp2_with fail
        go_meet
        exact FH.out.2
      · go_simp
        refine (gatheredN_c A1 P c1 A2 W.length c2 A4 (atE P (wvL P W V)) c4 P.length _ (atE_length _ _) (R1.out.below K5 (Nat.le_refl _)) o4.rd HT.out.par hn1 hn2 (atE_length _ _) (tot_bd HT.out HA.out)).mono ?_
        rintro e u9 ⟨A6, c6, rfl, o6, b9⟩
        have K9 := bUp K5 b9 K5.size
        have o6 := o6.mono (B' := w.heap.size + 1) (Nat.le_trans (Nat.le_of_eq HZ.out.symm) K5.size)
        refine ⟨by first | exact SK1.out _ K9, ?_⟩
        refine tame_two (i := 0) (j := 7) (by kernel_rfl) rfl rfl (by kernel_rfl) (by kernel_rfl) ?_ ?_
        · go_simp
          have K10 := K9.alloc K9.size (.cells #[] 40)
          have o4 := o4.alloc (.cells #[] 40)
          have n6 : blk A6 ≠ some u9.heap.size := fun e => Nat.lt_irrefl _ (o6.ltk _ e)
          have o6 := o6.alloc (.cells #[] 40)
          have op := (OwnP.lit u9 [] (by simp)).mono (B' := w.heap.size + 1) (Nat.le_trans (Nat.le_of_eq HZ.out.symm) K9.size)
          have lp : u9.heap.size < (u9.alloc (.cells #[] 40)).heap.size := by simp
          refine ⟨by first | exact SK1.out _ K10 | exact SK1.out _ K9 | exact SK1.out _ (Below.refl _ _), ?_⟩
          refine tame_one (k := 7) (by kernel_rfl) rfl (by kernel_rfl) ?_
          go_simp
          refine (sumsZ_c A1 P c1 A2 W c2 _ (R1.out.below K10 (Nat.le_refl _)) (R2.out.below K10 (Nat.le_refl _)) HT.out).mono ?_
          rintro e u11 ⟨A7, c7, rfl, o7, b11⟩
          have K11 := bUp K10 b11 K10.size
          have o6 := o6.below b11
          have op := op.below b11
          have n7 : blk A7 ≠ some u9.heap.size := fun e => by have h' := o7.ge _ e; have := lp; omega
          have lp := Nat.lt_of_lt_of_le lp b11.size
          have o7 := o7.mono (B' := w.heap.size + 1) (Nat.le_trans (Nat.le_of_eq HZ.out.symm) K10.size)
          refine ⟨by first | exact SK1.out _ K11, ?_⟩
          have FH := Lib.hid (And.intro K11 (show MnM w u11 P W V _ _ _ from ⟨_, u9.heap.size, _, A6, c6, A7, c7, rfl, rfl, rfl, rfl, op, o6, o7, ⟨n6, n7⟩, bUp HBv.out K11 (by have := HZ.out; omega)⟩))
          refine tame_one (k := 8) (by kernel_rfl) rfl (by kernel_rfl) ?_
          go_simp
          refine ⟨by first | exact SK1.out _ K11 | exact SK1.out _ FH.out.1, ?_⟩
          refine tame_one (k := 9) (by kernel_rfl) rfl (by kernel_rfl) ?_
          go_simp
          refine ⟨by first | exact SK1.out _ K11 | exact SK1.out _ FH.out.1, ?_⟩
          refine tame_one (k := 10) (by kernel_rfl) rfl (by kernel_rfl) ?_
          go_simp
          refine ⟨by first | exact SK1.out _ K11 | exact SK1.out _ FH.out.1, ?_⟩
          refine tame_end (by kernel_rfl) ?_
          go_wp2_with fail
          go_meet
          exact FH.out.2
        · go_simp
          refine (sumsZ_c A1 P c1 A2 W c2 _ (R1.out.below K9 (Nat.le_refl _)) (R2.out.below K9 (Nat.le_refl _)) HT.out).mono ?_
          rintro e u12 ⟨A7, c7, rfl, o7, b12⟩
          have K12 := bUp K9 b12 K9.size
          have o6 := o6.below b12
          have o7 := o7.mono (B' := w.heap.size + 1) (Nat.le_trans (Nat.le_of_eq HZ.out.symm) K9.size)
          refine ⟨by first | exact SK1.out _ K12, ?_⟩
          refine tame_one (k := 0) (by kernel_rfl) rfl (by kernel_rfl) ?_
          go_simp
          have K13 := K12.alloc K12.size (.cells #[] 40)
          have o4 := o4.alloc (.cells #[] 40)
          have n6 : blk A6 ≠ some u12.heap.size := fun e => Nat.lt_irrefl _ (o6.ltk _ e)
          have o6 := o6.alloc (.cells #[] 40)
          have n7 : blk A7 ≠ some u12.heap.size := fun e => Nat.lt_irrefl _ (o7.ltk _ e)
          have o7 := o7.alloc (.cells #[] 40)
          have op := (OwnP.lit u12 [] (by simp)).mono (B' := w.heap.size + 1) (Nat.le_trans (Nat.le_of_eq HZ.out.symm) K12.size)
          have lp : u12.heap.size < (u12.alloc (.cells #[] 40)).heap.size := by simp
          refine ⟨by first | exact SK1.out _ K13 | exact SK1.out _ K12 | exact SK1.out _ (Below.refl _ _), ?_⟩
          have FH := Lib.hid (And.intro K13 (show MnM w (u12.alloc (.cells #[] 40)) P W V _ _ _ from ⟨_, u12.heap.size, _, A6, c6, A7, c7, rfl, rfl, rfl, rfl, op, o6, o7, ⟨n6, n7⟩, bUp HBv.out K13 (by have := HZ.out; omega)⟩))
          refine tame_one (k := 8) (by kernel_rfl) rfl (by kernel_rfl) ?_
          go_simp
          refine ⟨by first | exact SK1.out _ K13 | exact SK1.out _ FH.out.1, ?_⟩
          refine tame_one (k := 9) (by kernel_rfl) rfl (by kernel_rfl) ?_
          go_simp
          refine ⟨by first | exact SK1.out _ K13 | exact SK1.out _ FH.out.1, ?_⟩
          refine tame_one (k := 10) (by kernel_rfl) rfl (by kernel_rfl) ?_
          go_simp
          refine ⟨by first | exact SK1.out _ K13 | exact SK1.out _ FH.out.1, ?_⟩
          refine tame_end (by kernel_rfl) ?_
          go_wp2_with fail
          go_meet
          exact FH.out.2
  case rest =>
    obtain ⟨A5, g5, c5, A6, c6, A7, c7, rfl, rfl, rfl, rfl, o5, o6, o7, hne, hB⟩ := hcut
    clear bx HB1
    go_wp2
    go_loopw [5, 22] (fun t i wr => ∃ (k g c : Nat), k ≤ P.length ∧ i = .int .i64 (k : Int) ∧ t = .slice (some ⟨g, 0, none⟩) k c ∧ OwnP wr (w.heap.size + 1) (some ⟨g, 0, none⟩) c (mnTo P W V k) ∧ Own wr (w.heap.size + 1) A6 c6 (totL P W V) ∧ Own wr (w.heap.size + 1) A7 c7 (gath P W) ∧ (blk A6 ≠ some g ∧ blk A7 ≠ some g) ∧ Below w.heap.size w wr) (fun _ i _ => P.length - (intOf i).toNat)
    case atStart => exact ⟨0, g5, c5, by omega, rfl, rfl, o5, o6, o7, hne, hB⟩
    case round =>
      clear o5 o6 o7 hne hB
      obtain ⟨wo, rfl⟩ : ∃ wo : World, wo = wr := ⟨_, rfl⟩
      obtain ⟨k, g, c, hk, rfl, rfl, o5, o6, o7, hne, hB⟩ := hrel
      by_cases hlt : k < P.length
      · have HL5 := Lib.hid (mnTo_length P W V k)
        have HL6 : Hid ((totL P W V).length = P.length) := Lib.hid (by rw [totL, gath_length, atE_length])
        have HL7 : Hid ((gath P W).length = P.length) := Lib.hid (by rw [gath_length, HT.out.len])
        obtain ⟨a6, rfl, q6⟩ := o6.rd.intN (k := k) (by rw [HL6.out]; exact hlt)
        obtain ⟨a7, rfl, q7⟩ := o7.rd.intN (k := k) (by rw [HL7.out]; exact hlt)
        have k0 : (0 : Int) ≤ (k : Int) := by omega
        have k1 : (k : Int) < (P.length : Int) := by omega
        have T := gatY_bz HT.out.par (atE_length P (wvL P W V)) (tot_bd HT.out HA.out) hn2 hn1 0 k
        rw [gatY_zero] at T
        change -480000 ≤ nth (totL P W V) k ∧ nth (totL P W V) k ≤ 480000 at T
        have S1 := gath_posZ HT.out P.length k (by omega) hlt
        have S2 := (HT.out.sum_bd k).2
        have HW := Lib.hid (lw_cut (a := nth (totL P W V) k) (b := nth (gath P W) k) (by omega) (by omega) (by omega) (by omega))
        have CL := fun W' => lowest_c (nth (totL P W V) k) (nth (gath P W) k) (by omega) (by omega) (by omega) (by omega) W'
        rw [HW.out.1, HW.out.2] at CL
        have HM : Hid (mnTo P W V (k + 1) = mnTo P W V k ++ [(cutT (nth (totL P W V) k) (nth (gath P W) k), cutB (nth (totL P W V) k) (nth (gath P W) k))]) := Lib.hid (mnTo_succ P W V k)
        generalize cutT (nth (totL P W V) k) (nth (gath P W) k) = s at *
        generalize cutB (nth (totL P W V) k) (nth (gath P W) k) = u at *
        clear HW T S1 S2
        go_wp2_with fail
        refine (CL _).mono ?_
        rintro e w5 ⟨rfl, b5⟩
        have b6 := (Below.refl _ w5).alloc (Nat.le_refl _) (.cells #[.int .i64 s, .int .i64 u] 40)
        have b7 := (Below.refl _ (w5.alloc (.cells #[.int .i64 s, .int .i64 u] 40))).alloc (Nat.le_refl _) (.cells #[.int .i64 s, .int .i64 u] 40)
        have Oa := ((o5.below b5).below b6).below b7
        have O6 := ((o6.below b5).below b6).below b7
        have O7 := ((o7.below b5).below b6).below b7
        have hz : w.heap.size + 1 ≤ w5.heap.size := by have := o5.ltk g rfl; have := o5.ge g rfl; have := b5.size; omega
        have HB7 := ((bUp hB b5 hB.size).alloc (by omega) (.cells #[.int .i64 s, .int .i64 u] 40)).alloc (by simp; omega) (.cells #[.int .i64 s, .int .i64 u] 40)
        have bq := Bx.new w5 (.int .i64 s) (.int .i64 u) 40
        obtain ⟨z0, z1, z2, z3, z4⟩ := id bq
        have osrc := (OwnP.lit (w5.alloc (.cells #[.int .i64 s, .int .i64 u] 40)) [(s, u)] (by simp)).src
        rw [World.size_alloc] at osrc
        have l7 : w.heap.size + 1 ≤ ((w5.alloc (.cells #[.int .i64 s, .int .i64 u] 40)).alloc (.cells #[.int .i64 s, .int .i64 u] 40)).heap.size := by simp; omega
        have l6 := O6.ltk
        have l8 := O7.ltk
        have HBs := Lib.hid HB7
        have LL := Lib.hid (And.intro l6 (And.intro l8 l7))
        clear CL q6 q7 b6 b7 HB7 hB b5 o5 o6 o7 bq l6 l8 l7
        go_wp2_with (at_builtin; refine wp_append_pairs _ rfl _ _ rfl (w.heap.size + 1) (some ⟨g, 0, none⟩) _ c (mnTo P W V k) rfl (HL5.out).symm Oa _ 1 1 [(s, u)] rfl rfl osrc (by rw [HL5.out]; simp; omega) LL.out.2.2 (by simp) ?_; intro g2 c2' w8 ho8 hg8 hx8)
        have n6 : blk (some a6) ≠ some g2 := by
          rcases hx8 with e | e
          · intro e2; exact hne.1 (e2.trans e)
          · intro e2; have := LL.out.1 g2 e2; omega
        have n7 : blk (some a7) ≠ some g2 := by
          rcases hx8 with e | e
          · intro e2; exact hne.2 (e2.trans e)
          · intro e2; have := LL.out.2.1 g2 e2; omega
        have O6 := O6.grown hg8 (.inr hne.1)
        have O7 := O7.grown hg8 (.inr hne.2)
        have hgg := Oa.ge g rfl
        have HB8 := HBs.out.grown hg8 HBs.out.size (fun b hb => by have hb : g = b := Option.some.inj hb; omega)
        rw [← HM.out] at ho8
        clear osrc z0 z1 z2 z3 z4 Oa LL
        go_roundw
        case rel => exact ⟨k + 1, g2, c2', by omega, by go_num, rfl, ho8, O6, O7, ⟨n6, n7⟩, HB8⟩
        case measure => simp [intOf] <;> omega
      · have hkn : k = P.length := by omega
        subst hkn
        go_wp2
        go_ret
        exact ⟨_, _, rfl, o5.mono (by omega), hB⟩

theorem arePays_y (A1 : Option Addr) (P : List Int) (c1 : Nat) (A2 : Option Addr) (W : List Int) (c2 : Nat) (A3 : Option Addr) (V : List Int) (c3 : Nat) (w : World) (h1 : Rd w A1 (ints P)) (h3 : Rd w A3 (ints V)) (h : TreeOk P W) (hl : V.length = (endL P).length) (ha : allB V (-999) 999 = true) :
    Calls Try.prog 119 #[trV A1 P.length c1 A2 W.length c2, .slice A3 V.length c3] w (Quietly w (.bool true)) := by
  have HB1 : Below w.heap.size w (w.alloc (.cells #[.slice A1 P.length c1, .slice A2 W.length c2] 26)) := (Below.refl _ _).alloc (Nat.le_refl _) _
  have HT := Lib.hid h
  have hle := enTo_len P P.length
  change (endL P).length ≤ _ at hle
  have hn2 := h.n2
  have HV : Hid (V.length ≤ 16777216) := Lib.hid (by omega)
  have e1 : ((V.length : Int) == ((endL P).length : Int)) = true := by simp [hl]
  have r1 := h1.below HB1 (Nat.le_refl _)
  clear hl hle
  go_enter Try.func119, Try.ntmps119
  go_wp2_with fail
  refine (ends_c _ _ _ _ _ _ _ r1 HT.out.par HT.out.n1 HT.out.n2).mono ?_
  rintro e w2 ⟨Ae, ce, rfl, oe, hb2⟩
  have HB2 := bUp HB1 hb2 HB1.size
  have h3w := h3.below HB2 (Nat.le_refl _)
  clear oe hb2 r1
  go_wp2_with fail
  refine (allWithin_is _ _ _ _ _ _ ha _ h3w HV.out).mono ?_
  rintro e w3 ⟨rfl, rfl⟩
  go_wp2
  go_ret
  exact ⟨rfl, HB2⟩
theorem mnL_length (P W V : List Int) : (mnL P W V).length = P.length := by simp [mnL]
theorem implMn_y (A1 : Option Addr) (P : List Int) (c1 : Nat) (A2 : Option Addr) (W : List Int) (c2 : Nat) (A3 : Option Addr) (V : List Int) (c3 : Nat) (w : World) (h1 : Rd w A1 (ints P)) (h2 : Rd w A2 (ints W)) (h3 : Rd w A3 (ints V)) (h : treeB P W = true) (hl : V.length = (endL P).length) (ha : allB V (-999) 999 = true) :
    Calls Try.prog 57 #[trV A1 P.length c1 A2 W.length c2, .slice A3 V.length c3] w (GivesP w (mnL P W V) true) := by
  have HB1 : Below w.heap.size w (w.alloc (.cells #[.slice A1 P.length c1, .slice A2 W.length c2] 26)) := (Below.refl _ _).alloc (Nat.le_refl _) _
  have bx := Bx.new w (.slice A1 P.length c1) (.slice A2 W.length c2) 26
  have HT := Lib.hid (treeB_iff.1 h)
  have HX := Lib.hid hl
  have hn2 := HT.out.n2
  have HP : Hid (P.length ≤ 16777216 ∧ W.length ≤ 16777216) := Lib.hid (by have := HT.out.len; omega)
  have hz : w.heap.size ≤ (w.alloc (.cells #[.slice A1 P.length c1, .slice A2 W.length c2] 26)).heap.size := HB1.size
  have r1 := h1.below HB1 (Nat.le_refl _)
  have r2 := h2.below HB1 (Nat.le_refl _)
  have r3 := h3.below HB1 (Nat.le_refl _)
  clear hl
  go_enter Try.func57, Try.ntmps57
  go_wp2_with fail
  refine (isTree_is _ _ _ _ _ _ _ h _ r1 r2 HP.out.1 HP.out.2).mono ?_
  rintro e w2 ⟨rfl, b2⟩
  have HB2 := bUp HB1 b2 HB1.size
  have bx2 := bx.below b2
  obtain ⟨f0, f1, f2, f3, f4⟩ := id bx2
  have s1 := r1.below b2 (Nat.le_refl _)
  have s2 := r2.below b2 (Nat.le_refl _)
  have s3 := r3.below b2 (Nat.le_refl _)
  clear bx r1 r2 r3 b2 HB1 hz
  go_wp2_with fail
  refine (arePays_y _ _ _ _ _ _ _ _ _ _ s1 s3 HT.out HX.out ha).mono ?_
  rintro e w3 ⟨rfl, b3⟩
  have HB3 := bUp HB2 b3 HB2.size
  have bx3 := bx2.below b3
  clear f0 f1 f2 f3 f4 bx2
  obtain ⟨f0, f1, f2, f3, f4⟩ := id bx3
  have q1 := s1.below b3 (Nat.le_refl _)
  have q2 := s2.below b3 (Nat.le_refl _)
  have q3 := s3.below b3 (Nat.le_refl _)
  clear s1 s2 s3 b3
  go_wp2_with fail
  refine (means_c A1 P c1 A2 W c2 A3 V c3 _ q1 q2 q3 HT.out HX.out ha).mono ?_
  rintro e w4 ⟨A, c, rfl, o4, b4⟩
  have HB4 := bUp HB3 b4 HB3.size
  have HM := Lib.hid (mnL_length P W V)
  go_wp2
  go_ret2
  exact ⟨A, c, by rw [HM.out] <;> rfl, o4.mono HB3.size, HB4⟩
theorem l2Pays_y (A1 : Option Addr) (P : List Int) (c1 : Nat) (A2 : Option Addr) (W : List Int) (c2 : Nat) (A3 : Option Addr) (V : List Int) (c3 : Nat) (w : World) (h1 : Rd w A1 (ints P)) (h2 : Rd w A2 (ints W)) (h3 : Rd w A3 (ints V)) (h : treeB P W = true) (hl : V.length = (endL P).length) (ha : allB V (-999) 999 = true) :
    Calls Try.prog 121 #[trV A1 P.length c1 A2 W.length c2, .slice A3 V.length c3] w (Quietly w (.bool true)) := by
  have HB1 : Below w.heap.size w (w.alloc (.cells #[.slice A1 P.length c1, .slice A2 W.length c2] 26)) := (Below.refl _ _).alloc (Nat.le_refl _) _
  have bx := Bx.new w (.slice A1 P.length c1) (.slice A2 W.length c2) 26
  have HT := Lib.hid (treeB_iff.1 h)
  have HA := Lib.hid ha
  have hn2 := HT.out.n2
  have HP : Hid (P.length ≤ 16777216 ∧ W.length ≤ 16777216) := Lib.hid (by have := HT.out.len; omega)
  have hle := enTo_len P P.length
  change (endL P).length ≤ _ at hle
  have hV : V.length ≤ 24 := by omega
  have e1 : ((V.length : Int) == ((endL P).length : Int)) = true := by simp [hl]
  have h1v := h1.below HB1 (Nat.le_refl _)
  have h2v := h2.below HB1 (Nat.le_refl _)
  have h3v := h3.below HB1 (Nat.le_refl _)
  have hz : w.heap.size ≤ (w.alloc (.cells #[.slice A1 P.length c1, .slice A2 W.length c2] 26)).heap.size := HB1.size
  clear hl hle ha h1 h2 h3
  go_enter Try.func121, Try.ntmps121
  go_upto_region 1 with fail
  generalize w.alloc (.cells #[.slice A1 P.length c1, .slice A2 W.length c2] 26) = v at *
  go_wp2
  go_loop [5] (fun i => ∃ k : Nat, k ≤ V.length ∧ i = .int .i64 k) (fun i => V.length - (intOf i).toNat)
  case atStart => exact ⟨0, by omega, rfl⟩
  case round =>
    obtain ⟨k, hk, rfl⟩ := hrel
    by_cases hlt : k < V.length
    · obtain ⟨a, rfl, hca⟩ := h3v.intN hlt
      have hx : inB (nth V k) (-999) 999 = true := inB_iff.2 (allB_nth HA.out hlt)
      go_wp2_with fail
      refine (l1In_is _ _ _ _ hx _).mono ?_
      rintro e w' ⟨rfl, rfl⟩
      go_wp2
      go_roundw
      case rel => exact ⟨k + 1, by omega, by go_num⟩
      case measure => simp [intOf] <;> omega
    · obtain ⟨f0, f1, f2, f3, f4⟩ := id bx
      go_wp2_with fail
      refine (l2Good_is _ _ _ _ _ _ _ h _ h1v h2v HP.out.1 HP.out.2).mono ?_
      rintro e w2 ⟨rfl, b2⟩
      have HB2 := bUp HB1 b2 hz
      have bx2 := bx.below b2
      clear f0 f1 f2 f3 f4
      obtain ⟨f0, f1, f2, f3, f4⟩ := id bx2
      go_wp2_with fail
      refine (l2Ends_c _ _ _ _ _ _ _ (h1v.below b2 (Nat.le_refl _)) HT.out.par HT.out.n2).mono ?_
      rintro e w3 ⟨Ae, ce, rfl, oe, b3⟩
      have HB3 := bUp HB2 b3 HB2.size
      go_wp2
      go_ret
      exact ⟨rfl, HB3⟩

section
variable {o : Oper} {a : Act} {ops : Array Oper} {Q : Exit → Act → World → Prop}
theorem op_make_intsZ {K : Act → World → Prop} (w : World) (l c : Operand) (hop : o.op = Op.makeSlice 24 l c) (kl kc : IntKind) (L C : Int) (n : Nat)
    (hl : a.eval l = .int kl L) (hc : a.eval c = .int kc C) (hL : L = (n : Int)) (hC : C = (n : Int)) (hn : n ≤ 16777216)
    (hK : ∀ w', Own w' w.heap.size (some ⟨w.heap.size, 0, none⟩) n (List.replicate n 0) → Below w.heap.size w w' → K (a.put o.dst (.slice (some ⟨w.heap.size, 0, none⟩) n n)) w') :
    o.wp Try.prog a w K Q := by
  obtain ⟨i0, hi, hz0, hz1, hz2⟩ := info_parts int_info
  obtain ⟨w', hrun, r1, r2⟩ := run_make_full (P := Try.prog) w w.heap.size 24 3 i0 _ 1 Try.underlying24 hi hz0 hz1 kl kc n (by rw [hz2]; omega) (by unfold maxLen; omega) (Nat.le_refl _)
  subst hL
  subst hC
  unfold Oper.wp
  simp [execOp, hop, hl, hc, hrun, Result.andThen]
  refine hK w' (own_of _ _ _ n _ _ (by simp) ?_) (below_of_grown r2)
  rw [← madeInts]
  exact r1
end
def TtM (w wx : World) (P W : List Int) (A1 A2 : Option Addr) (c1 c2 : Nat) (s5 s6 : Value) : Prop := ∃ (g : Nat) (Ae : Option Addr) (ce : Nat), s5 = .slice (some ⟨g, 0, none⟩) P.length P.length ∧ s6 = .slice Ae (endL P).length ce ∧
  Own wx (w.heap.size + 1) (some ⟨g, 0, none⟩) P.length (List.replicate P.length 0) ∧ Own wx (w.heap.size + 1) Ae ce (endL P) ∧ (Ae = none ∨ blk Ae ≠ some g) ∧ Bx wx w.heap.size (.slice A1 P.length c1) (.slice A2 W.length c2) ∧ Below w.heap.size w wx
set_option maxRecDepth 20000 in
set_option maxHeartbeats 2000000 in
theorem l2Totals_c (A1 : Option Addr) (P : List Int) (c1 : Nat) (A2 : Option Addr) (W : List Int) (c2 : Nat) (A3 : Option Addr) (V : List Int) (c3 : Nat) (w : World) (h1 : Rd w A1 (ints P)) (h2 : Rd w A2 (ints W)) (h3 : Rd w A3 (ints V)) (h : TreeOk P W) (hl : V.length = (endL P).length) (ha : allB V (-999) 999 = true) :
    Calls Try.prog 138 #[trV A1 P.length c1 A2 W.length c2, .slice A3 V.length c3] w (RowZ w P.length (totL P W V)) := by
  have HB1 : Below w.heap.size w (w.alloc (.cells #[.slice A1 P.length c1, .slice A2 W.length c2] 26)) := (Below.refl _ _).alloc (Nat.le_refl _) _
  have bx := Bx.new w (.slice A1 P.length c1) (.slice A2 W.length c2) 26
  have HT := Lib.hid h
  have HA := Lib.hid ha
  have HX := Lib.hid hl
  have hn1 := h.n1
  have hn2 := h.n2
  have HZ : Hid ((w.alloc (.cells #[.slice A1 P.length c1, .slice A2 W.length c2] 26)).heap.size = w.heap.size + 1) := Lib.hid (by simp)
  have hle := enTo_len P P.length
  change (endL P).length ≤ _ at hle
  clear hl ha
  go_enter Try.func138, Try.ntmps138
  go_upto_region 1 with fail
  generalize w.alloc (.cells #[.slice A1 P.length c1, .slice A2 W.length c2] 26) = v at *
  go_cut [5, 6] (fun s5 s6 wx => TtM w wx P W A1 A2 c1 c2 s5 s6)
  case first =>
    obtain ⟨f0, f1, f2, f3, f4⟩ := id bx
    have r1 := h1.below HB1 (Nat.le_refl _)
    have R1 := Lib.hid r1
    have HBv := Lib.hid HB1
    have HBX := Lib.hid bx
    have hzv : Hid (w.heap.size ≤ v.heap.size) := Lib.hid HB1.size
    clear bx h1 h2 h3 r1 HB1
    have hd1 : Below v.heap.size v v.drew := Below.drew (Below.refl _ _)
    have SK1 : Hid (∀ w', Below v.heap.size v w' → w'.cell? ⟨w.heap.size, 0, none⟩ = some (.slice A1 P.length c1) ∧ w'.cell? ⟨w.heap.size, 1, none⟩ = some (.slice A2 W.length c2)) := Lib.hid fun w' HV => ⟨(HV.cell (p := ⟨w.heap.size, 0, none⟩) f4).trans f0, (HV.cell (p := ⟨w.heap.size, 1, none⟩) f4).trans f1⟩
    clear f0 f1 f2 f3
    have hS1_0 := SK1.out _ hd1
    refine tamed_region (S := fun w' => w'.cell? ⟨w.heap.size, 0, none⟩ = some (.slice A1 P.length c1) ∧ w'.cell? ⟨w.heap.size, 1, none⟩ = some (.slice A2 W.length c2)) (fun _ => false) (by kernel_rfl) ?_
    refine tame0 (k := 0) ?_ rfl (by kernel_rfl) (by kernel_rfl) (by kernel_rfl) (fun _ _ _ h => h) (by kernel_rfl) (fun v => ?_) ?_
    rotate_left
    · (go_simp; all_goals rfl)
    simp only [Act.put, List.setIfInBounds_toArray]
    refine tame (k := 1) ?_ rfl (by kernel_rfl) (by kernel_rfl) (by kernel_rfl) (by kernel_rfl) (fun _ _ _ h => h) (by kernel_rfl) hS1_0 (fun v hv => ?_) ?_
    rotate_left
    · (obtain ⟨k1, k2⟩ := hv; go_simp; all_goals rfl)
    simp only [Act.put]
    refine tame0 (k := 2) ?_ rfl (by kernel_rfl) (by kernel_rfl) (by kernel_rfl) (fun _ _ _ h => h) (by kernel_rfl) (fun v => ?_) ?_
    rotate_left
    · (go_simp; all_goals rfl)
    simp only [Act.put]
    refine tame (k := 4) ?_ rfl (by kernel_rfl) (by kernel_rfl) (by kernel_rfl) (by kernel_rfl) (fun _ _ _ h => h) (by kernel_rfl) hS1_0 (fun v hv => ?_) ?_
    rotate_left
    · (obtain ⟨k1, k2⟩ := hv; go_simp; all_goals rfl)
    simp only [Act.put]
    have hS9 := Lib.hid hS1_0
    clear hS1_0
    refine tame_two (i := 3) (j := 5) (by kernel_rfl) rfl rfl (by kernel_rfl) (by kernel_rfl) ?_ ?_
    · refine op_make_intsZ _ (.tmp 11) (.tmp 11) rfl _ _ _ _ P.length rfl rfl rfl rfl (by omega) ?_
      intro w4 o4 b4
      have H4 := bUp hd1 b4 (Nat.le_refl _)
      refine ⟨fun _ => SK1.out _ H4, ?_⟩
      refine tame_one (k := 5) (by kernel_rfl) rfl (by kernel_rfl) ?_
      go_simp
      refine (l2Ends_c A1 P c1 A2 W.length c2 _ (R1.out.below H4 (Nat.le_refl _)) HT.out.par hn2).mono ?_
      rintro e w5 ⟨Ae, ce, rfl, oe, b5⟩
      have H5 := bUp H4 b5 H4.size
      have hne := o4.apartR oe (Nat.le_refl _)
      refine ⟨by first | exact SK1.out _ H5, ?_⟩
      have FH := Lib.hid (And.intro H5 (show TtM w w5 P W A1 A2 c1 c2 _ _ from ⟨_, Ae, ce, rfl, rfl, (o4.below b5).mono (Nat.le_trans (Nat.le_of_eq HZ.out.symm) hd1.size), (oe).mono (Nat.le_trans (Nat.le_of_eq HZ.out.symm) H4.size), hne, HBX.out.below H5, bUp HBv.out H5 hzv.out⟩))
      refine tame_one (k := 6) (by kernel_rfl) rfl (by kernel_rfl) ?_
      go_simp
      refine ⟨by first | exact SK1.out _ H5 | exact SK1.out _ FH.out.1, ?_⟩
      refine tame_one (k := 7) (by kernel_rfl) rfl (by kernel_rfl) ?_
      go_simp
      refine ⟨by first | exact SK1.out _ H5 | exact SK1.out _ FH.out.1, ?_⟩
      refine tame_end (by kernel_rfl) ?_
      go_wp2_with fail
      go_meet
      exact FH.out.2
    · go_simp
      refine (l2Ends_c A1 P c1 A2 W.length c2 _ (R1.out.below hd1 (Nat.le_refl _)) HT.out.par hn2).mono ?_
      rintro e w5 ⟨Ae, ce, rfl, oe, b5⟩
      have H5 := bUp hd1 b5 (Nat.le_refl _)
      refine ⟨by first | exact SK1.out _ H5, ?_⟩
      refine tame_one (k := 3) (by kernel_rfl) rfl (by kernel_rfl) ?_
      refine op_make_intsZ _ (.tmp 11) (.tmp 11) rfl _ _ _ _ P.length rfl rfl rfl rfl (by omega) ?_
      intro w4 o4 b4
      have H4 := bUp H5 b4 H5.size
      have hne : blk Ae ≠ some w5.heap.size := fun e => Nat.lt_irrefl _ (oe.ltk _ e)
      refine ⟨fun _ => SK1.out _ H4, ?_⟩
      have FH := Lib.hid (And.intro H4 (show TtM w w4 P W A1 A2 c1 c2 _ _ from ⟨_, Ae, ce, rfl, rfl, (o4).mono (Nat.le_trans (Nat.le_of_eq HZ.out.symm) H5.size), (oe.below b4).mono (Nat.le_trans (Nat.le_of_eq HZ.out.symm) hd1.size), .inr hne, HBX.out.below H4, bUp HBv.out H4 hzv.out⟩))
      refine tame_one (k := 6) (by kernel_rfl) rfl (by kernel_rfl) ?_
      go_simp
      refine ⟨by first | exact SK1.out _ H4 | exact SK1.out _ FH.out.1, ?_⟩
      refine tame_one (k := 7) (by kernel_rfl) rfl (by kernel_rfl) ?_
      go_simp
      refine ⟨by first | exact SK1.out _ H4 | exact SK1.out _ FH.out.1, ?_⟩
      refine tame_end (by kernel_rfl) ?_
      go_wp2_with fail
      go_meet
      exact FH.out.2
  case rest =>
    obtain ⟨g, Ae, ce, rfl, rfl, o5, oe, hne, bx4, HB4⟩ := hcut
    clear bx HB1
    go_wp2
    go_loopw [7] (fun i wr => ∃ k : Nat, k ≤ (endL P).length ∧ i = .int .i64 (k : Int) ∧ Own wr (w.heap.size + 1) (some ⟨g, 0, none⟩) P.length (putE P (wvL P W V) (List.replicate P.length 0) k) ∧ Own wr (w.heap.size + 1) Ae ce (endL P) ∧
        Bx wr w.heap.size (.slice A1 P.length c1) (.slice A2 W.length c2) ∧ Below w.heap.size w wr) (fun i _ => (endL P).length - (intOf i).toNat)
    case atStart => exact ⟨0, by omega, rfl, o5, oe, bx4, HB4⟩
    case round =>
      obtain ⟨wo, rfl⟩ : ∃ wo : World, wo = wr := ⟨_, rfl⟩
      obtain ⟨k, hk, rfl, ho, pe, hxx, hB⟩ := hrel
      clear o5 oe bx4 HB4
      have hx' := hxx
      obtain ⟨f0, f1, f2, f3, f4⟩ := hxx
      have hgg : w.heap.size < g := ho.ge g rfl
      by_cases hlt : k < (endL P).length
      · obtain ⟨j, hj, hje, hjn⟩ := endL_nth hlt
        obtain ⟨ae, rfl, qe⟩ := pe.rd.intN hlt
        rw [hjn] at qe
        obtain ⟨a3, rfl, q3⟩ := (h3.below hB (Nat.le_refl _)).intN (k := k) (by have := HX.out; omega)
        obtain ⟨a2, rfl, q2⟩ := (h2.below hB (Nat.le_refl _)).intN (k := j) (by have := HT.out.len; omega)
        have i0 : (k : Int) < ((endL P).length : Int) := by omega
        have i1 : (k : Int) < (V.length : Int) := by have := HX.out; omega
        have i2 : (j : Int) < (P.length : Int) := by omega
        have i3 : (j : Int) < (W.length : Int) := by have := HT.out.len; omega
        have j0 : (0 : Int) ≤ (j : Int) := by omega
        have k0 : (0 : Int) ≤ (k : Int) := by omega
        have BD := pay_bd HT.out HA.out k j
        have e1 : IntKind.i64.wrap (nth W j * nth V k) = nth W j * nth V k := IntWalk.i64_in _ (by omega)
        obtain ⟨u0, hco⟩ := ho.some_ (k := j) (by rw [putE_length]; simp; exact hj)
        have hfo := ho.frozen j
        have hst := ho.set j (nth W j * nth V k)
        have hS : putE P (wvL P W V) (List.replicate P.length 0) (k + 1) = (putE P (wvL P W V) (List.replicate P.length 0) k).set j (nth W j * nth V k) := by rw [putE, hjn, Int.toNat_natCast, wvL_nth hlt, hjn, Int.toNat_natCast]
        rw [← hS] at hst
        have pe3 := pe.grown hst.2 (by simpa [blk] using hne)
        have hx3 := hx'.grown hst.2 (by simp; omega)
        have hB3 := hB.grown hst.2 hB.size (fun k hk => by have := Option.some.inj hk; omega)
        clear hS hjn BD
        go_wp2
        refine wp_region_still_tail 19 (by kernel_rfl) (by kernel_rfl) ?_
        simp only [List.take_succ_cons, List.take_zero, List.drop_succ_cons, List.drop_zero]
        repeat still_step
        refine wpStill_nil ?_
        change wpList _ _ _ _ _ wo.drew
        go_wp2
        go_roundw
        case rel => exact ⟨k + 1, by omega, by go_num, hst.1.drew, pe3.drew, hx3.drewN 1, hB3.drew⟩
        case measure => simp [intOf] <;> omega
      · have hkn : k = (endL P).length := by omega
        subst hkn
        have HL := Lib.hid (atE_length P (wvL P W V))
        have HBD := Lib.hid (tot_bd HT.out HA.out)
        have ho2 : Own wo (w.heap.size + 1) (some ⟨g, 0, none⟩) P.length (atE P (wvL P W V)) := ho
        have e0 : (P.length : Int) - 1 = ((P.length - 1 : Nat) : Int) := by omega
        have ho3 : Own wo (w.heap.size + 1) (some ⟨g, 0, none⟩) P.length (gatY P (atE P (wvL P W V)) (P.length - 1)) := by
          have := gatY_last P (atE P (wvL P W V))
          rw [HL.out] at this
          rw [this]
          exact ho2
        have HXS : Hid (totL P W V = gath P (atE P (wvL P W V))) := Lib.hid rfl
        rw [HXS.out]
        generalize atE P (wvL P W V) = xs at *
        clear ho ho2 f0 f1 f2 f3 f4 pe
        go_wp2
        go_loopw [8] (fun i wr => ∃ y : Nat, y < P.length ∧ i = .int .i64 (y : Int) ∧ Own wr (w.heap.size + 1) (some ⟨g, 0, none⟩) P.length (gatY P xs y) ∧ Bx wr w.heap.size (.slice A1 P.length c1) (.slice A2 W.length c2) ∧ Below w.heap.size w wr) (fun i _ => (intOf i).toNat)
        case atStart => exact ⟨P.length - 1, by omega, by simp <;> omega, ho3, hx', hB⟩
        case round =>
          clear ho3 hx' hB e0
          obtain ⟨wo, rfl⟩ : ∃ wo : World, wo = wr := ⟨_, rfl⟩
          obtain ⟨y, hy, rfl, hoy, hxx, hB⟩ := hrel
          have hx' := hxx
          obtain ⟨f0, f1, f2, f3, f4⟩ := hxx
          by_cases hy0 : 0 < y
          · have hup := HT.out.par.up y hy0 hy
            obtain ⟨p, hpp⟩ : ∃ p : Nat, nth P y = (p : Int) := ⟨(nth P y).toNat, by omega⟩
            have hpy : p < y := by omega
            have HS := Lib.hid (gatY_step (xs := xs) hy0 (by rw [HL.out]; exact hy) hpp)
            obtain ⟨a1, rfl, q1⟩ := (h1.below hB (Nat.le_refl _)).intN (k := y) hy
            rw [hpp] at q1
            have hly := gatY_length P xs y
            rw [HL.out] at hly
            have qp := hoy.cellN (k := p) (by omega)
            have qy := hoy.cellN (k := y) (by omega)
            have hfp := hoy.frozen p
            have hst := hoy.set p (nth (gatY P xs y) p + nth (gatY P xs y) y)
            rw [← HS.out] at hst
            have b1 := gatY_bz HT.out.par HL.out HBD.out hn2 hn1 y p
            have b2 := gatY_bz HT.out.par HL.out HBD.out hn2 hn1 y y
            have e1 : IntKind.i64.wrap (nth (gatY P xs y) p + nth (gatY P xs y) y) = nth (gatY P xs y) p + nth (gatY P xs y) y := IntWalk.i64_in _ (by omega)
            have i1 : (0 : Int) ≤ (p : Int) := by omega
            have i2 : (p : Int) < (P.length : Int) := by omega
            have i3 : (0 : Int) ≤ (y : Int) := by omega
            have i4 : (y : Int) < (P.length : Int) := by omega
            have e6 : (y : Int) - 1 = ((y - 1 : Nat) : Int) := by omega
            have HB3 := (hB.grown hst.2 hB.size (fun k hk => by have := Option.some.inj hk; omega)).drew
            have hx3 := (hx'.grown hst.2 (by simp; omega))
            clear hpp hup hly
            go_wp2
            refine wp_region_still_tail 20 (by kernel_rfl) (by kernel_rfl) ?_
            simp only [List.take_succ_cons, List.take_zero, List.drop_succ_cons, List.drop_zero]
            repeat still_step
            refine wpStill_nil ?_
            change wpList _ _ _ _ _ wo.drew
            go_wp2
            go_roundw
            case rel => exact ⟨y - 1, by omega, by simp <;> omega, hst.1, hx3.drewN 1, HB3⟩
            case measure => simp [intOf] <;> omega
          · obtain rfl : y = 0 := by omega
            rw [gatY_zero] at hoy
            go_wp2
            go_ret
            exact ⟨some ⟨g, 0, none⟩, P.length, rfl, by rw [HXS.out]; exact hoy.mono (B' := w.heap.size) (Nat.le_succ _), hB⟩

theorem l2SumsZ_c (A1 : Option Addr) (P : List Int) (c1 : Nat) (A2 : Option Addr) (W : List Int) (c2 : Nat) (w : World) (h1 : Rd w A1 (ints P)) (h2 : Rd w A2 (ints W)) (h : TreeOk P W) :
    Calls Try.prog 131 #[trV A1 P.length c1 A2 W.length c2] w (RowZ w P.length (gath P W)) :=
  (l2Sums_c A1 P c1 A2 W c2 w h1 h2 h.par h.n1 h.n2 h.len h.w0).mono fun _ _ hr => rowZ hr (by rw [gath_length, h.len])
/-- What l2Means has made ahead of its loop. -/
def MnX (w wx : World) (P W V : List Int) (s5 s6 s7 : Value) : Prop := ∃ (g5 c5 : Nat) (A6 : Option Addr) (c6 : Nat) (A7 : Option Addr) (c7 : Nat), s5 = .slice (some ⟨g5, 0, none⟩) 0 c5 ∧ s6 = .slice A6 P.length c6 ∧ s7 = .slice A7 P.length c7 ∧
  OwnP wx (w.heap.size + 1) (some ⟨g5, 0, none⟩) c5 [] ∧ Own wx (w.heap.size + 1) A6 c6 (gath P W) ∧ Own wx (w.heap.size + 1) A7 c7 (totL P W V) ∧ (blk A6 ≠ some g5 ∧ blk A7 ≠ some g5) ∧ Below w.heap.size w wx
set_option maxRecDepth 20000 in
set_option maxHeartbeats 2000000 in
theorem l2Means_c (A1 : Option Addr) (P : List Int) (c1 : Nat) (A2 : Option Addr) (W : List Int) (c2 : Nat) (A3 : Option Addr) (V : List Int) (c3 : Nat) (w : World) (h1 : Rd w A1 (ints P)) (h2 : Rd w A2 (ints W)) (h3 : Rd w A3 (ints V)) (h : TreeOk P W) (hl : V.length = (endL P).length) (ha : allB V (-999) 999 = true) :
    Calls Try.prog 122 #[trV A1 P.length c1 A2 W.length c2, .slice A3 V.length c3] w fun e w' => ∃ A c, e = .returned (.slice A P.length c) ∧ OwnP w' w.heap.size A c (mnL P W V) ∧ Below w.heap.size w w' := by
  have HB1 : Below w.heap.size w (w.alloc (.cells #[.slice A1 P.length c1, .slice A2 W.length c2] 26)) := (Below.refl _ _).alloc (Nat.le_refl _) _
  have bx := Bx.new w (.slice A1 P.length c1) (.slice A2 W.length c2) 26
  have HT := Lib.hid h
  have HA := Lib.hid ha
  have HX := Lib.hid hl
  have hn1 := h.n1
  have hn2 := h.n2
  have HZ : Hid ((w.alloc (.cells #[.slice A1 P.length c1, .slice A2 W.length c2] 26)).heap.size = w.heap.size + 1) := Lib.hid (by simp)
  clear hl ha
  go_enter Try.func122, Try.ntmps122
  go_upto_region 1 with fail
  generalize w.alloc (.cells #[.slice A1 P.length c1, .slice A2 W.length c2] 26) = v at *
  go_cut [5, 6, 7] (fun s5 s6 s7 wx => MnX w wx P W V s5 s6 s7)
  case first =>
    obtain ⟨f0, f1, f2, f3, f4⟩ := id bx
    have R1 := Lib.hid (h1.below HB1 (Nat.le_refl _))
    have R2 := Lib.hid (h2.below HB1 (Nat.le_refl _))
    have R3 := Lib.hid (h3.below HB1 (Nat.le_refl _))
    have HBv := Lib.hid HB1
    clear bx h1 h2 h3 HB1
    have hd1 : Below v.heap.size v v.drew := Below.drew (Below.refl _ _)
    have SK1 : Hid (∀ w', Below v.heap.size v w' → w'.cell? ⟨w.heap.size, 0, none⟩ = some (.slice A1 P.length c1) ∧ w'.cell? ⟨w.heap.size, 1, none⟩ = some (.slice A2 W.length c2)) := Lib.hid fun w' HV => ⟨(HV.cell (p := ⟨w.heap.size, 0, none⟩) f4).trans f0, (HV.cell (p := ⟨w.heap.size, 1, none⟩) f4).trans f1⟩
    clear f0 f1 f2 f3
    have hS1_0 := SK1.out _ hd1
    refine tamed_region (S := fun w' => w'.cell? ⟨w.heap.size, 0, none⟩ = some (.slice A1 P.length c1) ∧ w'.cell? ⟨w.heap.size, 1, none⟩ = some (.slice A2 W.length c2)) (fun _ => false) (by kernel_rfl) ?_
    refine tame (k := 1) ?_ rfl (by kernel_rfl) (by kernel_rfl) (by kernel_rfl) (by kernel_rfl) (fun _ _ _ h => h) (by kernel_rfl) hS1_0 (fun v hv => ?_) ?_
    rotate_left
    · (obtain ⟨k1, k2⟩ := hv; go_simp; all_goals rfl)
    simp only [Act.put, List.setIfInBounds_toArray]
    refine tame (k := 3) ?_ rfl (by kernel_rfl) (by kernel_rfl) (by kernel_rfl) (by kernel_rfl) (fun _ _ _ h => h) (by kernel_rfl) hS1_0 (fun v hv => ?_) ?_
    rotate_left
    · (obtain ⟨k1, k2⟩ := hv; go_simp; all_goals rfl)
    simp only [Act.put]
    refine tame0 (k := 4) ?_ rfl (by kernel_rfl) (by kernel_rfl) (by kernel_rfl) (fun _ _ _ h => h) (by kernel_rfl) (fun v => ?_) ?_
    rotate_left
    · (go_simp; all_goals rfl)
    simp only [Act.put]
    have hS9 := Lib.hid hS1_0
    clear hS1_0
    refine tame_two (i := 0) (j := 2) (by kernel_rfl) rfl rfl (by kernel_rfl) (by kernel_rfl) ?_ ?_
    · go_simp
      have K1 := hd1.alloc (Nat.le_refl _) (.cells #[] 40)
      have op := (OwnP.lit v.drew [] (by simp)).mono (B' := w.heap.size + 1) (Nat.le_trans (Nat.le_of_eq HZ.out.symm) hd1.size)
      have lp : v.drew.heap.size < (v.drew.alloc (.cells #[] 40)).heap.size := by simp
      refine ⟨by first | exact SK1.out _ K1 | exact SK1.out _ hd1 | exact SK1.out _ (Below.refl _ _), ?_⟩
      refine tame_one (k := 2) (by kernel_rfl) rfl (by kernel_rfl) ?_
      go_simp
      refine (l2SumsZ_c A1 P c1 A2 W c2 _ (R1.out.below K1 (Nat.le_refl _)) (R2.out.below K1 (Nat.le_refl _)) HT.out).mono ?_
      rintro e u2 ⟨A6, c6, rfl, o6, b2⟩
      have K2 := bUp K1 b2 K1.size
      have op := op.below b2
      have n6 : blk A6 ≠ some v.drew.heap.size := fun e => by have h' := o6.ge _ e; have := lp; omega
      have lp := Nat.lt_of_lt_of_le lp b2.size
      have o6 := o6.mono (B' := w.heap.size + 1) (Nat.le_trans (Nat.le_of_eq HZ.out.symm) K1.size)
      refine ⟨by first | exact SK1.out _ K2, ?_⟩
      refine tame_one (k := 5) (by kernel_rfl) rfl (by kernel_rfl) ?_
      go_simp
      refine (l2Totals_c A1 P c1 A2 W c2 A3 V c3 _ (R1.out.below K2 (Nat.le_refl _)) (R2.out.below K2 (Nat.le_refl _)) (R3.out.below K2 (Nat.le_refl _)) HT.out HX.out HA.out).mono ?_
      rintro e u3 ⟨A7, c7, rfl, o7, b3⟩
      have K3 := bUp K2 b3 K2.size
      have o6 := o6.below b3
      have op := op.below b3
      have n7 : blk A7 ≠ some v.drew.heap.size := fun e => by have h' := o7.ge _ e; have := lp; omega
      have lp := Nat.lt_of_lt_of_le lp b3.size
      have o7 := o7.mono (B' := w.heap.size + 1) (Nat.le_trans (Nat.le_of_eq HZ.out.symm) K2.size)
      refine ⟨by first | exact SK1.out _ K3, ?_⟩
      have FH := Lib.hid (And.intro K3 (show MnX w u3 P W V _ _ _ from ⟨v.drew.heap.size, _, A6, c6, A7, c7, rfl, rfl, rfl, op, o6, o7, ⟨n6, n7⟩, bUp HBv.out K3 (by have := HZ.out; omega)⟩))
      refine tame_one (k := 6) (by kernel_rfl) rfl (by kernel_rfl) ?_
      go_simp
      refine ⟨by first | exact SK1.out _ K3 | exact SK1.out _ FH.out.1, ?_⟩
      refine tame_one (k := 7) (by kernel_rfl) rfl (by kernel_rfl) ?_
      go_simp
      refine ⟨by first | exact SK1.out _ K3 | exact SK1.out _ FH.out.1, ?_⟩
      refine tame_one (k := 8) (by kernel_rfl) rfl (by kernel_rfl) ?_
      go_simp
      refine ⟨by first | exact SK1.out _ K3 | exact SK1.out _ FH.out.1, ?_⟩
      refine tame_end (by kernel_rfl) ?_
      go_wp2_with fail
      go_meet
      exact FH.out.2
    · go_simp
      refine (l2SumsZ_c A1 P c1 A2 W c2 _ (R1.out.below hd1 (Nat.le_refl _)) (R2.out.below hd1 (Nat.le_refl _)) HT.out).mono ?_
      rintro e u4 ⟨A6, c6, rfl, o6, b4⟩
      have K4 := bUp hd1 b4 (Nat.le_refl _)
      have o6 := o6.mono (B' := w.heap.size + 1) (Nat.le_trans (Nat.le_of_eq HZ.out.symm) hd1.size)
      refine ⟨by first | exact SK1.out _ K4, ?_⟩
      refine tame_two (i := 0) (j := 5) (by kernel_rfl) rfl rfl (by kernel_rfl) (by kernel_rfl) ?_ ?_
      · go_simp
        have K5 := K4.alloc K4.size (.cells #[] 40)
        have n6 : blk A6 ≠ some u4.heap.size := fun e => Nat.lt_irrefl _ (o6.ltk _ e)
        have o6 := o6.alloc (.cells #[] 40)
        have op := (OwnP.lit u4 [] (by simp)).mono (B' := w.heap.size + 1) (Nat.le_trans (Nat.le_of_eq HZ.out.symm) K4.size)
        have lp : u4.heap.size < (u4.alloc (.cells #[] 40)).heap.size := by simp
        refine ⟨by first | exact SK1.out _ K5 | exact SK1.out _ K4 | exact SK1.out _ (Below.refl _ _), ?_⟩
        refine tame_one (k := 5) (by kernel_rfl) rfl (by kernel_rfl) ?_
        go_simp
        refine (l2Totals_c A1 P c1 A2 W c2 A3 V c3 _ (R1.out.below K5 (Nat.le_refl _)) (R2.out.below K5 (Nat.le_refl _)) (R3.out.below K5 (Nat.le_refl _)) HT.out HX.out HA.out).mono ?_
        rintro e u6 ⟨A7, c7, rfl, o7, b6⟩
        have K6 := bUp K5 b6 K5.size
        have o6 := o6.below b6
        have op := op.below b6
        have n7 : blk A7 ≠ some u4.heap.size := fun e => by have h' := o7.ge _ e; have := lp; omega
        have lp := Nat.lt_of_lt_of_le lp b6.size
        have o7 := o7.mono (B' := w.heap.size + 1) (Nat.le_trans (Nat.le_of_eq HZ.out.symm) K5.size)
        refine ⟨by first | exact SK1.out _ K6, ?_⟩
        have FH := Lib.hid (And.intro K6 (show MnX w u6 P W V _ _ _ from ⟨u4.heap.size, _, A6, c6, A7, c7, rfl, rfl, rfl, op, o6, o7, ⟨n6, n7⟩, bUp HBv.out K6 (by have := HZ.out; omega)⟩))
        refine tame_one (k := 6) (by kernel_rfl) rfl (by kernel_rfl) ?_
        go_simp
        refine ⟨by first | exact SK1.out _ K6 | exact SK1.out _ FH.out.1, ?_⟩
        refine tame_one (k := 7) (by kernel_rfl) rfl (by kernel_rfl) ?_
        go_simp
        refine ⟨by first | exact SK1.out _ K6 | exact SK1.out _ FH.out.1, ?_⟩
        refine tame_one (k := 8) (by kernel_rfl) rfl (by kernel_rfl) ?_
        go_simp
        refine ⟨by first | exact SK1.out _ K6 | exact SK1.out _ FH.out.1, ?_⟩
        refine tame_end (by kernel_rfl) ?_
        go_wp2_with fail
        go_meet
        exact FH.out.2
      · go_simp
        refine (l2Totals_c A1 P c1 A2 W c2 A3 V c3 _ (R1.out.below K4 (Nat.le_refl _)) (R2.out.below K4 (Nat.le_refl _)) (R3.out.below K4 (Nat.le_refl _)) HT.out HX.out HA.out).mono ?_
        rintro e u7 ⟨A7, c7, rfl, o7, b7⟩
        have K7 := bUp K4 b7 K4.size
        have o6 := o6.below b7
        have o7 := o7.mono (B' := w.heap.size + 1) (Nat.le_trans (Nat.le_of_eq HZ.out.symm) K4.size)
        refine ⟨by first | exact SK1.out _ K7, ?_⟩
        refine tame_one (k := 0) (by kernel_rfl) rfl (by kernel_rfl) ?_
        go_simp
        have K8 := K7.alloc K7.size (.cells #[] 40)
        have n6 : blk A6 ≠ some u7.heap.size := fun e => Nat.lt_irrefl _ (o6.ltk _ e)
        have o6 := o6.alloc (.cells #[] 40)
        have n7 : blk A7 ≠ some u7.heap.size := fun e => Nat.lt_irrefl _ (o7.ltk _ e)
        have o7 := o7.alloc (.cells #[] 40)
        have op := (OwnP.lit u7 [] (by simp)).mono (B' := w.heap.size + 1) (Nat.le_trans (Nat.le_of_eq HZ.out.symm) K7.size)
        have lp : u7.heap.size < (u7.alloc (.cells #[] 40)).heap.size := by simp
        refine ⟨by first | exact SK1.out _ K8 | exact SK1.out _ K7 | exact SK1.out _ (Below.refl _ _), ?_⟩
        have FH := Lib.hid (And.intro K8 (show MnX w (u7.alloc (.cells #[] 40)) P W V _ _ _ from ⟨u7.heap.size, _, A6, c6, A7, c7, rfl, rfl, rfl, op, o6, o7, ⟨n6, n7⟩, bUp HBv.out K8 (by have := HZ.out; omega)⟩))
        refine tame_one (k := 6) (by kernel_rfl) rfl (by kernel_rfl) ?_
        go_simp
        refine ⟨by first | exact SK1.out _ K8 | exact SK1.out _ FH.out.1, ?_⟩
        refine tame_one (k := 7) (by kernel_rfl) rfl (by kernel_rfl) ?_
        go_simp
        refine ⟨by first | exact SK1.out _ K8 | exact SK1.out _ FH.out.1, ?_⟩
        refine tame_one (k := 8) (by kernel_rfl) rfl (by kernel_rfl) ?_
        go_simp
        refine ⟨by first | exact SK1.out _ K8 | exact SK1.out _ FH.out.1, ?_⟩
        refine tame_end (by kernel_rfl) ?_
        go_wp2_with fail
        go_meet
        exact FH.out.2
  case rest =>
    obtain ⟨g5, c5, A6, c6, A7, c7, rfl, rfl, rfl, o5, o6, o7, hne, hB⟩ := hcut
    clear bx HB1
    go_wp2
    go_loopw [5, 8] (fun t i wr => ∃ (k g c : Nat), k ≤ P.length ∧ i = .int .i64 (k : Int) ∧ t = .slice (some ⟨g, 0, none⟩) k c ∧ OwnP wr (w.heap.size + 1) (some ⟨g, 0, none⟩) c (mnTo P W V k) ∧ Own wr (w.heap.size + 1) A6 c6 (gath P W) ∧ Own wr (w.heap.size + 1) A7 c7 (totL P W V) ∧ (blk A6 ≠ some g ∧ blk A7 ≠ some g) ∧ Below w.heap.size w wr) (fun _ i _ => P.length - (intOf i).toNat)
    case atStart => exact ⟨0, g5, c5, by omega, rfl, rfl, o5, o6, o7, hne, hB⟩
    case round =>
      clear o5 o6 o7 hne hB
      obtain ⟨wo, rfl⟩ : ∃ wo : World, wo = wr := ⟨_, rfl⟩
      obtain ⟨k, g, c, hk, rfl, rfl, o5, o6, o7, hne, hB⟩ := hrel
      by_cases hlt : k < P.length
      · have HL5 := Lib.hid (mnTo_length P W V k)
        have HL6 : Hid ((gath P W).length = P.length) := Lib.hid (by rw [gath_length, HT.out.len])
        have HL7 : Hid ((totL P W V).length = P.length) := Lib.hid (by rw [totL, gath_length, atE_length])
        obtain ⟨a6, rfl, q6⟩ := o6.rd.intN (k := k) (by rw [HL6.out]; exact hlt)
        obtain ⟨a7, rfl, q7⟩ := o7.rd.intN (k := k) (by rw [HL7.out]; exact hlt)
        have k0 : (0 : Int) ≤ (k : Int) := by omega
        have k1 : (k : Int) < (P.length : Int) := by omega
        have T := gatY_bz HT.out.par (atE_length P (wvL P W V)) (tot_bd HT.out HA.out) hn2 hn1 0 k
        rw [gatY_zero] at T
        change -480000 ≤ nth (totL P W V) k ∧ nth (totL P W V) k ≤ 480000 at T
        have S1 := gath_posZ HT.out P.length k (by omega) hlt
        have S2 := (HT.out.sum_bd k).2
        have CL := fun W' => l2Cut_c (nth (totL P W V) k) (nth (gath P W) k) (by omega) (by omega) (by omega) (by omega) W'
        have HM : Hid (mnTo P W V (k + 1) = mnTo P W V k ++ [(cutT (nth (totL P W V) k) (nth (gath P W) k), cutB (nth (totL P W V) k) (nth (gath P W) k))]) := Lib.hid (mnTo_succ P W V k)
        generalize cutT (nth (totL P W V) k) (nth (gath P W) k) = s at *
        generalize cutB (nth (totL P W V) k) (nth (gath P W) k) = u at *
        have CLh := Lib.hid CL
        have hgz := o5.ltk g rfl
        have hgg := o5.ge g rfl
        clear T S1 S2 CL
        go_upto_region 5 with fail
        have hd2 : Below wo.heap.size wo wo.drew := Below.drew (Below.refl _ _)
        have SK2 : Hid (∀ w', Below wo.heap.size wo w' → w'.cell? (a7.add k) = some (.int .i64 (nth (totL P W V) k)) ∧ w'.cell? (a6.add k) = some (.int .i64 (nth (gath P W) k))) := Lib.hid fun w' HV => ⟨(HV.cell (cell_lt q7)).trans q7, (HV.cell (cell_lt q6)).trans q6⟩
        clear q6 q7
        have hS2_0 := SK2.out _ hd2
        refine tamed_region (S := fun w' => w'.cell? (a7.add k) = some (.int .i64 (nth (totL P W V) k)) ∧ w'.cell? (a6.add k) = some (.int .i64 (nth (gath P W) k))) (fun k => k == 11 || k == 12) (by kernel_rfl) ?_
        refine tame0 (k := 0) ?_ rfl (by kernel_rfl) (by kernel_rfl) (by kernel_rfl) (fun _ _ _ h => h) (by kernel_rfl) (fun v => ?_) ?_
        rotate_left
        · (go_simp; all_goals rfl)
        simp only [Act.put, List.setIfInBounds_toArray]
        refine tame0 (k := 1) ?_ rfl (by kernel_rfl) (by kernel_rfl) (by kernel_rfl) (fun _ _ _ h => h) (by kernel_rfl) (fun v => ?_) ?_
        rotate_left
        · (go_simp; all_goals rfl)
        simp only [Act.put]
        refine tame0 (k := 2) ?_ rfl (by kernel_rfl) (by kernel_rfl) (by kernel_rfl) (fun _ _ _ h => h) (by kernel_rfl) (fun v => ?_) ?_
        rotate_left
        · (go_simp; all_goals rfl)
        simp only [Act.put]
        refine tame0 (k := 3) ?_ rfl (by kernel_rfl) (by kernel_rfl) (by kernel_rfl) (fun _ _ _ h => h) (by kernel_rfl) (fun v => ?_) ?_
        rotate_left
        · (go_simp; all_goals rfl)
        simp only [Act.put]
        refine tameT (k := 4) ?_ rfl (by kernel_rfl) (by kernel_rfl) (by kernel_rfl) (by kernel_rfl) (by kernel_rfl) (fun _ _ _ h => h) (by kernel_rfl) hS2_0 (fun v hv => ?_) ?_
        rotate_left
        · (obtain ⟨k1, k2⟩ := hv; go_simp; all_goals rfl)
        simp only [Act.put]
        refine tame0 (k := 5) ?_ rfl (by kernel_rfl) (by kernel_rfl) (by kernel_rfl) (fun _ _ _ h => h) (by kernel_rfl) (fun v => ?_) ?_
        rotate_left
        · (go_simp; all_goals rfl)
        simp only [Act.put]
        refine tame0 (k := 6) ?_ rfl (by kernel_rfl) (by kernel_rfl) (by kernel_rfl) (fun _ _ _ h => h) (by kernel_rfl) (fun v => ?_) ?_
        rotate_left
        · (go_simp; all_goals rfl)
        simp only [Act.put]
        refine tame0 (k := 7) ?_ rfl (by kernel_rfl) (by kernel_rfl) (by kernel_rfl) (fun _ _ _ h => h) (by kernel_rfl) (fun v => ?_) ?_
        rotate_left
        · (go_simp; all_goals rfl)
        simp only [Act.put]
        refine tameT (k := 8) ?_ rfl (by kernel_rfl) (by kernel_rfl) (by kernel_rfl) (by kernel_rfl) (by kernel_rfl) (fun _ _ _ h => h) (by kernel_rfl) hS2_0 (fun v hv => ?_) ?_
        rotate_left
        · (obtain ⟨k1, k2⟩ := hv; go_simp; all_goals rfl)
        simp only [Act.put]
        refine tame_one (k := 9) (by kernel_rfl) rfl (by kernel_rfl) ?_
        go_simp
        refine (CLh.out _).mono ?_
        rintro e w5 ⟨rfl, b5⟩
        have hd2_1 := bUp hd2 b5 (Nat.le_refl _)
        have hS2_1 := Lib.hid (SK2.out _ hd2_1)
        refine ⟨by first | exact hS2_1 | exact Hid.out hS2_1, ?_⟩
        have b7 := (Below.refl _ w5).alloc (Nat.le_refl _) (.cells #[.int .i64 s, .int .i64 u] 40)
        have b0 : Below wo.heap.size wo wo.drew := Below.drew (Below.refl _ _)
        have Oa := (o5.drew.below b5).below b7
        have O6 := (o6.drew.below b5).below b7
        have O7 := (o7.drew.below b5).below b7
        have hz5 := hd2_1.size
        have HB7 := (bUp hB hd2_1 hB.size).alloc (by omega) (.cells #[.int .i64 s, .int .i64 u] 40)
        have osrc := (OwnP.lit w5 [(s, u)] (by simp)).src
        have l7 : w.heap.size + 1 ≤ (w5.alloc (.cells #[.int .i64 s, .int .i64 u] 40)).heap.size := by simp; omega
        have HBs := Lib.hid HB7
        have LL := Lib.hid (And.intro O6.ltk (And.intro O7.ltk l7))
        have H6 := hd2_1.alloc hd2_1.size (.cells #[.int .i64 s, .int .i64 u] 40)
        clear b7 HB7
        refine tame_one (k := 10) (by kernel_rfl) rfl (by kernel_rfl) ?_
        go_simp
        refine ⟨by first | exact SK2.out _ H6 | exact SK2.out _ hd2_1, ?_⟩
        refine tame_one (k := 11) (by kernel_rfl) rfl (by kernel_rfl) ?_
        refine op_append_pairs _ _ _ rfl (w.heap.size + 1) (some ⟨g, 0, none⟩) _ c (mnTo P W V k) rfl HL5.out.symm Oa _ 1 1 [(s, u)] rfl rfl osrc (by rw [HL5.out]; simp; omega) LL.out.2.2 (by simp) ?_
        intro g2 c2' w8 ho8 hg8 hx8
        have n6 : blk (some a6) ≠ some g2 := by
          rcases hx8 with e | e
          · intro e2; exact hne.1 (e2.trans e)
          · intro e2; have := LL.out.1 g2 e2; omega
        have n7 : blk (some a7) ≠ some g2 := by
          rcases hx8 with e | e
          · intro e2; exact hne.2 (e2.trans e)
          · intro e2; have := LL.out.2.1 g2 e2; omega
        have O6 := O6.grown hg8 (.inr hne.1)
        have O7 := O7.grown hg8 (.inr hne.2)
        have HB8 := HBs.out.grown hg8 HBs.out.size (fun b hb => by have hb : g = b := Option.some.inj hb; omega)
        rw [← HM.out] at ho8
        refine ⟨fun h => (by cases h), ?_⟩
        refine tame_one (k := 12) (by kernel_rfl) rfl (by kernel_rfl) ?_
        go_simp
        refine tame_end (by kernel_rfl) ?_
        go_wp2_with fail
        go_roundw
        case rel => exact ⟨k + 1, g2, c2', by omega, by go_num, rfl, ho8, O6, O7, ⟨n6, n7⟩, HB8⟩
        case measure => simp [intOf] <;> omega
      · have hkn : k = P.length := by omega
        subst hkn
        go_wp2
        go_ret
        exact ⟨_, _, rfl, o5.mono (by omega), hB⟩
theorem specMn_y (A1 : Option Addr) (P : List Int) (c1 : Nat) (A2 : Option Addr) (W : List Int) (c2 : Nat) (A3 : Option Addr) (V : List Int) (c3 : Nat) (w : World) (h1 : Rd w A1 (ints P)) (h2 : Rd w A2 (ints W)) (h3 : Rd w A3 (ints V)) (h : treeB P W = true) (hl : V.length = (endL P).length) (ha : allB V (-999) 999 = true) :
    Calls Try.prog 58 #[trV A1 P.length c1 A2 W.length c2, .slice A3 V.length c3] w (GivesP w (mnL P W V) true) := by
  have HB1 : Below w.heap.size w (w.alloc (.cells #[.slice A1 P.length c1, .slice A2 W.length c2] 26)) := (Below.refl _ _).alloc (Nat.le_refl _) _
  have bx := Bx.new w (.slice A1 P.length c1) (.slice A2 W.length c2) 26
  have HT := Lib.hid (treeB_iff.1 h)
  have HX := Lib.hid hl
  have r1 := h1.below HB1 (Nat.le_refl _)
  have r2 := h2.below HB1 (Nat.le_refl _)
  have r3 := h3.below HB1 (Nat.le_refl _)
  clear hl
  go_enter Try.func58, Try.ntmps58
  go_wp2_with fail
  refine (l2Pays_y _ _ _ _ _ _ _ _ _ _ r1 r2 r3 h HX.out ha).mono ?_
  rintro e w2 ⟨rfl, b2⟩
  have HB2 := bUp HB1 b2 HB1.size
  have bx2 := bx.below b2
  obtain ⟨f0, f1, f2, f3, f4⟩ := id bx2
  have s1 := r1.below b2 (Nat.le_refl _)
  have s2 := r2.below b2 (Nat.le_refl _)
  have s3 := r3.below b2 (Nat.le_refl _)
  clear bx r1 r2 r3 b2 HB1
  go_wp2_with fail
  refine (l2Means_c A1 P c1 A2 W c2 A3 V c3 _ s1 s2 s3 HT.out HX.out ha).mono ?_
  rintro e w4 ⟨A, c, rfl, o4, b4⟩
  have HB4 := bUp HB2 b4 HB2.size
  have HM := Lib.hid (mnL_length P W V)
  go_wp2
  go_ret2
  exact ⟨A, c, by rw [HM.out] <;> rfl, o4.mono HB2.size, HB4⟩

end Go.Proofs.Ytnhclpajfejnoaa
