/- The law FnSound: plainly, and its walk from the end to the start. -/
import Derived.Test.YtnhclpajfejnoaaUpK
import Derived.Test.YtnhclpajfejnoaaFgI
import Derived.Test.YtnhclpajfejnoaaDrF
import Derived.Test.YtnhclpajfejnoaaFgR
import Derived.Test.YtnhclpajfejnoaaAfT
import Derived.Test.YtnhclpajfejnoaaAfI
import Derived.Test.YtnhclpajfejnoaaFuW
import Derived.Test.YtnhclpajfejnoaaWoI
import Derived.Test.YtnhclpajfejnoaaVw
import Derived.Test.YtnhclpajfejnoaaByt
namespace Go.Proofs.Ytnhclpajfejnoaa
open Go.RowKit

section
variable {P W F X : List Int}
theorem sum_pos1 {f : Nat → Int} {k n : Nat} (hk : k < n) (h : ∀ i, i < n → 0 ≤ f i) (h1 : 1 ≤ f k) : 1 ≤ sN f n := by
  have e := sN_one (f := fun i => if i = k then (1 : Int) else 0) hk (fun i _ hn => if_neg hn)
  rw [if_pos rfl] at e
  rw [← e]
  refine sN_le fun i hi => ?_
  split
  · rename_i h'; subst h'; exact h1
  · exact h i hi
theorem gath_pos2 {P W : List Int} (h : TreeOk P W) : ∀ n x, P.length - x ≤ n → x < P.length → 1 ≤ nth (gath P W) x
  | 0, x, h0, hx => by omega
  | n + 1, x, h0, hx => by
    cases he : endB P x
    · obtain ⟨z, hz⟩ := List.exists_mem_of_ne_nil (kids P (x : Int)) (fun h' => by rw [(kids_nil x).1 h'] at he; cases he)
      obtain ⟨j, hj, hpj, rfl⟩ := mem_kidTo.1 hz
      have hj0 : 0 < j := by
        rcases Nat.eq_zero_or_pos j with rfl | h'
        · have := h.par.zero; omega
        · exact h'
      have hu := h.par.up j hj0 hj
      have ih := gath_pos2 h n j (by omega) hj
      have hw := h.wt x hx
      rw [he] at hw
      simp only [Bool.false_eq_true, if_false] at hw
      rw [gath_eq h.par h.len h.n1 x, hw, Int.zero_add]
      refine sum_pos1 hj (fun i _ => ?_) (by rw [if_pos hpj]; exact ih)
      split
      · exact (h.sum_bd i).1
      · exact Int.le_refl _
    · rw [gath_end h.par h.len h.n1 he]
      have hw := h.wt x hx
      rw [he] at hw
      simp only [if_true] at hw
      exact hw.1
theorem side_pos {l : List Int} (h : decide (0 < l.length) = true) : ∃ a, a ∈ l := by
  have h : 0 < l.length := of_decide_eq_true h
  exact ⟨l[0], List.getElem_mem h⟩
theorem side_nil {l : List Int} (h : decide (0 < l.length) = false) : ∀ a, a ∉ l := fun a ha => by
  have := List.length_pos_of_mem ha
  exact of_decide_eq_false h this
/-- A node with children on one side only: less, or more. -/
theorem un_side {x : Nat} (hu : unB P F x = true) : ((∃ a, a ∈ lessL P F x) ∧ (∀ a, a ∉ moreL P F x) ∧ 0 < (lessL P F x).length) ∨ ((∀ a, a ∉ lessL P F x) ∧ (∃ a, a ∈ moreL P F x) ∧ ¬ 0 < (lessL P F x).length) := by
  unfold unB at hu
  cases h1 : decide (0 < (lessL P F x).length) <;> cases h2 : decide (0 < (moreL P F x).length) <;> rw [h1, h2] at hu
  · cases hu
  · exact .inr ⟨side_nil h1, side_pos h2, of_decide_eq_false h1⟩
  · exact .inl ⟨side_pos h1, side_nil h2, of_decide_eq_true h1⟩
  · cases hu
theorem mem_lessL {x : Nat} {a : Int} : a ∈ lessL P F x ↔ a ∈ kids P (x : Int) ∧ nth F a.toNat < nth F x := by simp [lessL, lessTo]
theorem mem_moreL {x : Nat} {a : Int} : a ∈ moreL P F x ↔ a ∈ kids P (x : Int) ∧ nth F x < nth F a.toNat := by simp [moreL, moreTo]
theorem kid_mem {x y : Nat} (_hp : ParOk P) (hy : y < P.length) (h : nth P y = (x : Int)) : Kid P x y := mem_kidTo.2 ⟨y, hy, h, rfl⟩
theorem par_kid (hp : ParOk P) {y : Nat} (h0 : 0 < y) (hy : y < P.length) : ∃ p : Nat, p < y ∧ Kid P p y := by
  have := hp.up y h0 hy
  exact ⟨(nth P y).toNat, by omega, kid_mem hp hy (by omega)⟩
theorem gainL_nth {k : Nat} (hk : k < P.length) (h : unK P F = (k : Int)) (y : Nat) : nth (gainL P F) y = if y = k then (if 0 < (lessL P F k).length then -1 else 1) else 0 := by
  rw [gainL, h, Int.toNat_natCast]
  by_cases hy : y = k
  · subst hy
    rw [if_pos rfl, nth_set_self (by simpa using hk)]
  · rw [if_neg hy, nth_set_ne (fun e => hy e.symm), nth_rep]
/-- The gain's wealth: nowhere below 0, and above it at some end. -/
theorem gain_nn (hp : ParOk P) {k : Nat} (hk : k < P.length) (h : unK P F = (k : Int)) (hu : unB P F k = true) : ∀ n y, y < n → y < P.length → 0 ≤ nth (wl P F (gainL P F) 0) y := by
  intro n
  induction n with
  | zero => intro y h1; omega
  | succ n ih =>
    intro y hy hl
    rcases Nat.eq_zero_or_pos y with rfl | h0
    · rw [wl_zero]; exact Int.le_refl _
    · obtain ⟨p, hpy, kd⟩ := par_kid hp h0 hl
      have h1 := ih p (by omega) (by omega)
      rw [wl_kid hp kd, gainL_nth hk h p]
      by_cases hpk : p = k
      · subst hpk
        rw [if_pos rfl]
        rcases un_side hu with ⟨_, h2, h3⟩ | ⟨h2, _, h3⟩
        · rw [if_pos h3]
          have := h2 (y : Int)
          rw [mem_moreL] at this
          have : ¬ nth F p < nth F y := fun hc => this ⟨kd, by rw [Int.toNat_natCast]; exact hc⟩
          omega
        · rw [if_neg h3]
          have := h2 (y : Int)
          rw [mem_lessL] at this
          have : ¬ nth F y < nth F p := fun hc => this ⟨kd, by rw [Int.toNat_natCast]; exact hc⟩
          omega
      · rw [if_neg hpk]; omega
theorem gain_down (hp : ParOk P) {k : Nat} (hk : k < P.length) (h : unK P F = (k : Int)) : ∀ n y, P.length ≤ y + n → y < P.length → k < y → 0 < nth (wl P F (gainL P F) 0) y → ∃ e, e < P.length ∧ endB P e = true ∧ 0 < nth (wl P F (gainL P F) 0) e := by
  intro n
  induction n with
  | zero => intro y h1 h2; omega
  | succ n ih =>
    intro y h1 h2 h3 h4
    cases he : endB P y with
    | true => exact ⟨y, h2, he, h4⟩
    | false =>
      obtain ⟨z, hz⟩ := List.exists_mem_of_ne_nil (kids P (y : Int)) (fun h' => by rw [(kids_nil y).1 h'] at he; cases he)
      obtain ⟨j, hj, hpj, rfl⟩ := mem_kidTo.1 hz
      have kd : Kid P y j := hz
      have hyj := (kid_gt hp kd).1
      refine ih j (by omega) hj (by omega) ?_
      rw [wl_kid hp kd, gainL_nth hk h y, if_neg (by omega)]
      omega
theorem gain_end (hp : ParOk P) {k : Nat} (hk : k < P.length) (h : unK P F = (k : Int)) (hu : unB P F k = true) : ∃ e, e < P.length ∧ endB P e = true ∧ 0 < nth (wl P F (gainL P F) 0) e := by
  have h0 := gain_nn hp hk h hu _ k (Nat.lt_succ_self _) hk
  have key : ∀ a : Int, a ∈ kids P (k : Int) → 0 < (if 0 < (lessL P F k).length then (-1 : Int) else 1) * (nth F a.toNat - nth F k) → ∃ e, e < P.length ∧ endB P e = true ∧ 0 < nth (wl P F (gainL P F) 0) e := fun a ha hpos => by
    obtain ⟨j, hj, hpj, rfl⟩ := mem_kidTo.1 ha
    have kd : Kid P k j := ha
    rw [Int.toNat_natCast] at hpos
    refine gain_down hp hk h P.length j (by omega) hj (kid_gt hp kd).1 ?_
    rw [wl_kid hp kd, gainL_nth hk h k, if_pos rfl]
    omega
  rcases un_side hu with ⟨⟨a, ha⟩, _, h3⟩ | ⟨_, ⟨a, ha⟩, h3⟩
  · rw [mem_lessL] at ha
    exact key a ha.1 (by rw [if_pos h3]; omega)
  · rw [mem_moreL] at ha
    exact key a ha.1 (by rw [if_neg h3]; omega)
/-- Fair weights: no node is uneven. -/
theorem fair_even (h : fwV P W F X = true) : unK P F = -1 := by
  simp only [fwV, fwB, Bool.and_eq_true, decide_eq_true_eq] at h
  obtain ⟨⟨⟨hm, hX⟩, ha⟩, hb⟩ := h
  have hT := (mktB_iff.1 hm).1
  have ht : TreeOk P (atE P X) := treeB_iff.1 (by rw [atE_tree hT hX]; exact ha)
  have hp := hT.par
  refine unK_none fun x hx => ?_
  cases hu : unB P F x with
  | false => rfl
  | true =>
    exfalso
    have he : endB P x = false := by
      cases he : endB P x with
      | false => rfl
      | true =>
        have hk := (kids_nil x).2 he
        rcases un_side hu with ⟨⟨a, ha⟩, _, _⟩ | ⟨_, ⟨a, ha⟩, _⟩
        · rw [mem_lessL, hk] at ha; cases ha.1
        · rw [mem_moreL, hk] at ha; cases ha.1
    have hbx : balX P (gath P (atE P X)) F x = true := by
      simp only [balA, List.all_eq_true, List.mem_range] at hb
      exact hb x hx
    simp only [balX, he, Bool.false_or, decide_eq_true_eq] at hbx
    unfold kidS at hbx
    have hg := gath_eq hp ht.len hT.n1 x (xs := atE P X)
    rw [atE_in he, Int.zero_add] at hg
    rw [kS_sN] at hbx
    generalize hs : gath P (atE P X) = s at *
    have hsp : ∀ z, z < P.length → 1 ≤ nth s z := fun z hz => by rw [← hs]; exact gath_pos2 ht _ z (Nat.le_refl _) hz
    -- the sum of weighted differences is zero
    have hz : sN (fun z => if nth P z = (x : Int) then nth s z * (nth F z - nth F x) else 0) P.length = 0 := by
      have e : sN (fun z => if nth P z = (x : Int) then pS s F z else 0) P.length = sN (fun z => (if nth P z = (x : Int) then nth s z * (nth F z - nth F x) else 0) + nth F x * (if nth P z = (x : Int) then nth s z else 0)) P.length := sN_congr fun z _ => by
        split
        · unfold pS; grind
        · simp
      rw [e, sN_add, sN_mul, ← hg] at hbx
      unfold pS at hbx
      have : nth F x * nth s x = nth s x * nth F x := Int.mul_comm _ _
      omega
    rcases un_side hu with ⟨⟨a, ha⟩, h2, _⟩ | ⟨h2, ⟨a, ha⟩, _⟩
    · rw [mem_lessL] at ha
      obtain ⟨hk, hlt⟩ := ha
      obtain ⟨j, hj, hpj, rfl⟩ := mem_kidTo.1 hk
      rw [Int.toNat_natCast] at hlt
      have h1 : 1 ≤ sN (fun z => if nth P z = (x : Int) then nth s z * (nth F x - nth F z) else 0) P.length := sum_pos1 hj (fun z hz' => by
        split
        · next hpz =>
          have := h2 (z : Int)
          rw [mem_moreL] at this
          have : ¬ nth F x < nth F z := fun hc => this ⟨kid_mem hp hz' hpz, by rw [Int.toNat_natCast]; exact hc⟩
          exact Int.mul_nonneg (by have := hsp z hz'; omega) (by omega)
        · exact Int.le_refl _) (by
        rw [if_pos hpj]
        have := Int.mul_le_mul (hsp j hj) (show 1 ≤ nth F x - nth F j by omega) (by decide) (by have := hsp j hj; omega)
        omega)
      have e : sN (fun z => if nth P z = (x : Int) then nth s z * (nth F x - nth F z) else 0) P.length = (-1) * sN (fun z => if nth P z = (x : Int) then nth s z * (nth F z - nth F x) else 0) P.length := by
        rw [← sN_mul]
        refine sN_congr fun z _ => ?_
        split
        · grind
        · rfl
      rw [e, hz] at h1
      omega
    · rw [mem_moreL] at ha
      obtain ⟨hk, hlt⟩ := ha
      obtain ⟨j, hj, hpj, rfl⟩ := mem_kidTo.1 hk
      rw [Int.toNat_natCast] at hlt
      have h1 : 1 ≤ sN (fun z => if nth P z = (x : Int) then nth s z * (nth F z - nth F x) else 0) P.length := sum_pos1 hj (fun z hz' => by
        split
        · next hpz =>
          have := h2 (z : Int)
          rw [mem_lessL] at this
          have : ¬ nth F z < nth F x := fun hc => this ⟨kid_mem hp hz' hpz, by rw [Int.toNat_natCast]; exact hc⟩
          exact Int.mul_nonneg (by have := hsp z hz'; omega) (by omega)
        · exact Int.le_refl _) (by
        rw [if_pos hpj]
        have := Int.mul_le_mul (hsp j hj) (show 1 ≤ nth F j - nth F x by omega) (by decide) (by have := hsp j hj; omega)
        omega)
      rw [hz] at h1
      omega
end

theorem nameS {α : Type} (a : α) : ∃ b, a = b := ⟨a, rfl⟩
set_option maxRecDepth 20000 in
set_option maxHeartbeats 1000000 in
theorem rBigS_c (A : Option Addr) (bs : List Int) (c : Nat) (w : World) (_hl : bs.length ≤ 9223372036854775807) :
    Calls Try.prog 7 #[.slice A bs.length c] w fun e w' => e = .returned (.bool (decide (65536 < (bs.length : Int)))) ∧ w = w' := by
  go_enter Try.func7, Try.ntmps7
  go_wp2
  go_ret
  exact ⟨rfl, rfl⟩
/-- Whether a list has a number. -/
def hasN (xs : List Int) (n : Int) : Bool := xs.any fun q => q == n
theorem hasN_iff {xs : List Int} {n : Int} : hasN xs n = true ↔ n ∈ xs := by simp [hasN]
set_option maxRecDepth 20000 in
theorem rHas_c (A : Option Addr) (xs : List Int) (c : Nat) (n : Int) (w : World) (ha : Rd w A (ints xs)) (hl : xs.length ≤ 16777216) :
    Calls Try.prog 37 #[.slice A xs.length c, .int .i64 n] w fun e w' => e = .returned (.bool (hasN xs n)) ∧ w = w' := by
  go_enter Try.func37, Try.ntmps37
  go_wp2
  go_loop [5] (fun i => ∃ k : Nat, k ≤ xs.length ∧ i = .int .i64 k ∧ ∀ j, j < k → nth xs j ≠ n) (fun i => xs.length - (intOf i).toNat)
  case atStart => exact ⟨0, by omega, rfl, fun j hj => by omega⟩
  case round =>
    obtain ⟨k, hk, rfl, hall⟩ := hrel
    have HA := Lib.hid hall
    clear hall
    by_cases hlt : k < xs.length
    · obtain ⟨a, rfl, hca⟩ := ha.intN hlt
      by_cases hx : nth xs k = n
      · have HN : Hid (hasN xs n = true) := Lib.hid (hasN_iff.2 (by rw [← hx, nth_eq hlt]; exact List.getElem_mem hlt))
        rw [hx] at hca
        clear hx
        go_wp2_with fail
        go_ret
        exact ⟨by rw [HN.out]; rfl, rfl⟩
      · have hx' : (nth xs k == n) = false := by simpa using hx
        have HN : Hid (∀ j, j < k + 1 → nth xs j ≠ n) := Lib.hid fun j hj => by
          rcases Nat.lt_or_ge j k with h | h
          · exact HA.out j h
          · rw [show j = k by omega]; exact hx
        go_wp2_with fail
        go_round
        case rel => exact ⟨k + 1, by omega, by go_num, HN.out⟩
        case measure => simp [intOf] <;> omega
    · have HN : Hid (hasN xs n = false) := Lib.hid (by
        cases hh : hasN xs n with
        | false => rfl
        | true =>
          obtain ⟨j, hj, e⟩ := List.mem_iff_getElem.1 (hasN_iff.1 hh)
          exact absurd (by rw [nth_eq hj]; exact e) (HA.out j (by omega)))
      go_wp2
      go_ret
      exact ⟨by rw [HN.out]; rfl, rfl⟩
set_option maxRecDepth 20000 in
set_option maxHeartbeats 1000000 in
theorem specUn_c (A1 : Option Addr) (P : List Int) (c1 : Nat) (A2 : Option Addr) (W : List Int) (c2 : Nat) (A3 : Option Addr) (F : List Int) (c3 : Nat) (w : World) (h : RdM w A1 P A2 W A3 F) :
    Calls Try.prog 27 #[mkV A1 P.length c1 A2 W.length c2 A3 F.length c3] w (Quietly w (.tuple #[.int .i64 (if fgB P W F then unK P F else 0), .bool (fgB P W F)])) := by
  have HB1 : Below w.heap.size w (w.alloc (.cells #[.slice A1 P.length c1, .slice A2 W.length c2, .slice A3 F.length c3] 28)) := (Below.refl _ _).alloc (Nat.le_refl _) _
  have bx := Bx3.new w (.slice A1 P.length c1) (.slice A2 W.length c2) (.slice A3 F.length c3) 28
  have hv := h.below HB1 (Nat.le_refl _)
  have CM := l6Market_c A1 P c1 A2 W c2 A3 F c3 _ hv
  obtain ⟨k0, k1, k2, k3⟩ := id bx
  cases hm : mktB P W F
  · rw [hm] at CM
    rw [fgB_1 hm]
    simp only [Bool.false_eq_true, if_false]
    clear hm
    go_enter Try.func27, Try.ntmps27
    go_wp2_with fail
    refine CM.mono ?_
    rintro e w2 ⟨rfl, b2⟩
    go_wp2_with fail
    go_ret2
    exact ⟨rfl, bUp HB1 b2 HB1.size⟩
  · rw [hm] at CM
    have hM := mktB_iff.1 hm
    have HM := Lib.hid hM
    have HMT := Lib.hid hm
    clear hm hM
    rcases unK_cases P F with ⟨hu, _⟩ | ⟨k, hk, hu, _⟩
    · rw [fgB_2 (W := W) hu]
      simp only [Bool.false_eq_true, if_false]
      have HU := Lib.hid hu
      clear hu
      go_enter Try.func27, Try.ntmps27
      go_wp2_with fail
      refine CM.mono ?_
      rintro e w2 ⟨rfl, b2⟩
      have h2 := hv.below b2 (Nat.le_refl _)
      have bx2 := bx.below b2
      have HB2 := bUp HB1 b2 HB1.size
      have CU := l6Uneven_c A1 P c1 A2 W.length c2 A3 F c3 _ h2.r1 h2.r3 HM.out.1.par HM.out.1.n2 HM.out.2.1
      rw [HU.out] at CU
      clear k0 k1 k2 k3 CM
      obtain ⟨k0, k1, k2, k3⟩ := id bx2
      go_wp2_with fail
      refine CU.mono ?_
      rintro e w3 ⟨rfl, b3⟩
      go_wp2_with fail
      go_ret2
      exact ⟨rfl, bUp HB2 b3 HB2.size⟩
    · rw [fgB_3 HMT.out hu, if_pos rfl, hu]
      have HU := Lib.hid hu
      have hk0 : ¬ ((k : Int) < 0) := by omega
      clear hu
      go_enter Try.func27, Try.ntmps27
      go_wp2_with fail
      refine CM.mono ?_
      rintro e w2 ⟨rfl, b2⟩
      have h2 := hv.below b2 (Nat.le_refl _)
      have bx2 := bx.below b2
      have HB2 := bUp HB1 b2 HB1.size
      have CU := l6Uneven_c A1 P c1 A2 W.length c2 A3 F c3 _ h2.r1 h2.r3 HM.out.1.par HM.out.1.n2 HM.out.2.1
      rw [HU.out] at CU
      clear k0 k1 k2 k3 CM
      obtain ⟨k0, k1, k2, k3⟩ := id bx2
      go_wp2_with fail
      refine CU.mono ?_
      rintro e w3 ⟨rfl, b3⟩
      have h3 := h2.below b3 (Nat.le_refl _)
      have bx3 := bx2.below b3
      have HB3 := bUp HB2 b3 HB2.size
      have CU2 := l6Uneven_c A1 P c1 A2 W.length c2 A3 F c3 _ h3.r1 h3.r3 HM.out.1.par HM.out.1.n2 HM.out.2.1
      rw [HU.out] at CU2
      clear k0 k1 k2 k3 CU
      obtain ⟨k0, k1, k2, k3⟩ := id bx3
      go_wp2_with fail
      refine CU2.mono ?_
      rintro e w4 ⟨rfl, b4⟩
      go_wp2_with fail
      go_ret2
      exact ⟨rfl, bUp HB3 b4 HB3.size⟩
/-- What the law's end needs: holdings that are valid, and their wealth. -/
structure SdFacts (P W F H G : List Int) : Prop where
  tree : TreeOk P W
  hl : hlB P W F H 0 = true
  wh : whV P W F H 0 = G
  len : G.length = P.length
  nn : ∀ y, y < P.length → 0 ≤ nth G y
  pos : ∃ e, e < P.length ∧ endB P e = true ∧ 0 < nth G e
theorem sd_facts {P W F : List Int} (h : fgB P W F = true) : SdFacts P W F (fgV P W F) (wl P F (fgV P W F) 0) := by
  have hm : mktB P W F = true := by simp only [fgB, Bool.and_eq_true] at h; exact h.1
  have hM := mktB_iff.1 hm
  have hT := hM.1
  rcases unK_cases P F with ⟨hu, _⟩ | ⟨k, hk, hu, hub⟩
  · rw [fgB_2 hu] at h; cases h
  · rw [fgV_yes h]
    have hn := gainL_nth hk hu
    have hlen : (gainL P F).length = P.length := by simp [gainL]
    have hke : endB P k = false := by
      cases he : endB P k with
      | false => rfl
      | true =>
        have hkd := (kids_nil k).2 he
        rcases un_side hub with ⟨⟨a, ha⟩, _, _⟩ | ⟨_, ⟨a, ha⟩, _⟩
        · rw [mem_lessL, hkd] at ha; cases ha.1
        · rw [mem_moreL, hkd] at ha; cases ha.1
    have hl : hlB P W F (gainL P F) 0 = true := by
      refine hlB_3 hm (by decide) (hldB_3 (by rw [hlen]; exact hM.2.1.symm) ?_ (zB_iff.2 fun x hx he => ?_))
      · refine List.all_eq_true.2 fun x hx => ?_
        obtain ⟨j, hj, e⟩ := List.mem_iff_getElem.1 hx
        rw [← e, ← nth_eq hj, hn j]
        split
        · split <;> decide
        · decide
      · rw [hn x, if_neg (fun e => by rw [e, hke] at he; cases he)]
    exact ⟨hT, hl, whV_yes hl, by rw [wl]; exact (wl_len hT.n1), fun y hy => gain_nn hT.par hk hu hub _ y (Nat.lt_succ_self _) hy, gain_end hT.par hk hu hub⟩
theorem has_end {P : List Int} {x : Nat} (hx : x < P.length) : hasN (endL P) (x : Int) = endB P x := by
  cases he : endB P x with
  | true =>
    obtain ⟨i, hi, e⟩ := end_idx hx he
    exact hasN_iff.2 (by rw [← e, nth_eq hi]; exact List.getElem_mem hi)
  | false =>
    cases hh : hasN (endL P) (x : Int) with
    | false => rfl
    | true =>
      obtain ⟨i, hi, e⟩ := List.mem_iff_getElem.1 (hasN_iff.1 hh)
      obtain ⟨j, hj, hje, hn⟩ := endL_nth hi
      rw [nth_eq hi, e] at hn
      have : x = j := by omega
      rw [← this, he] at hje
      cases hje
noncomputable def sd32 : Code := ((Try.f4.body.bind (restFrom 32)).getD .skip)
set_option maxRecDepth 100000 in
set_option maxHeartbeats 16000000 in
theorem sdEnd (A1 : Option Addr) (P : List Int) (c1 : Nat) (A2 : Option Addr) (W : List Int) (c2 : Nat) (A3 : Option Addr) (F : List Int) (c3 : Nat) (gm : Nat) (AH : Option Addr) (H : List Int) (cH : Nat) (G : List Int) (hH : H.length ≤ 24) (SF : Hid (SdFacts P W F H G))
    (w0 w : World) (HB : Below w0.heap.size w0 w) (h : RdM w A1 P A2 W A3 F) (bx : Bx3 w gm (.slice A1 P.length c1) (.slice A2 W.length c2) (.slice A3 F.length c3)) (rH : Rd w AH (ints H)) (u0 u1 u2 u5 u6 u7 u8 u9 u10 u11 u12 u13 u14 u15 u16 u17 u18 u19 u20 u21 u22 u23 u24 u25 u26 u27 u28 u29 u30 u31 u32 u33 u34 u35 u36 u37 u38 u39 u40 u41 u42 u43 u44 u45 u46 u47 u48 u49 u50 u51 u52 u53 u54 u55 u56 u57 u58 u59 u60 u61 u62 u63 u64 u65 u66 u67 u68 u69 u70 u71 u72 u73 u74 u75 u76 u77 u78 u79 u80 u81 u82 u83 u84 u85 u86 u87 u88 u89 u90 u91 u92 u93 u94 u95 u96 u97 u98 u99 u100 u101 u102 u103 u104 u105 u106 u107 u108 u109 u110 u111 u112 u113 u114 u115 u116 u117 u118 u119 u120 u121 u122 u123 u124 u125 u126 u127 u128 u129 u130 u131 u132 u133 u134 u135 u136 u137 u138 u139 u140 u141 u142 u143 u144 u145 u146 u147 u148 u149 u150 u151 u152 u153 u154 u155 u156 u157 u158 u159 u160 u161 u162 u163 u164 u165 u166 u167 u168 u169 u170 u171 u172 u173 u174 u175 u176 u177 u178 u179 u180 u181 u182 u183 u184 u185 u186 u187 u188 u189 u190 u191 u192 u193 u194 u195 u196 u197 u198 u199 u200 u201 u202 u203 u204 u205 u206 u207 u208 u209 u210 u211 u212 u213 u214 u215 u216 u217 u218 u219 u220 u221 u222 u223 u224 u225 u226 u227 u228 u229 u230 u231 u232 : Value) :
    Code.wp Try.prog sd32 (bodyPost Try.prog Try.f4 fun e w' => e = .returned (.bool true) ∧ Below w0.heap.size w0 w') ⟨#[u0, u1, u2, .pointer (some ⟨gm, 0, none⟩), .slice AH H.length cH, u5, u6, u7, u8, u9, u10, u11, u12, u13, u14, u15, u16, u17, u18, u19, u20, u21, u22, u23, u24, u25, u26, u27, u28, u29, u30, u31, u32, u33, u34, u35, u36, u37, u38, u39, u40, u41, u42, u43, u44, u45, u46, u47, u48, u49, u50, u51, u52, u53, u54, u55, u56, u57, u58, u59, u60, u61, u62, u63, u64, u65, u66, u67, u68, u69, u70, u71, u72, u73, u74, u75, u76, u77, u78, u79, u80, u81, u82, u83, u84, u85, u86, u87, u88, u89, u90, u91, u92, u93, u94, u95, u96, u97, u98, u99, u100, u101, u102, u103, u104, u105, u106, u107, u108, u109, u110, u111, u112, u113, u114, u115, u116, u117, u118, u119, u120, u121, u122, u123, u124, u125, u126, u127, u128, u129, u130, u131, u132, u133, u134, u135, u136, u137, u138, u139, u140, u141, u142, u143, u144, u145, u146, u147, u148, u149, u150, u151, u152, u153, u154, u155, u156, u157, u158, u159, u160, u161, u162, u163, u164, u165, u166, u167, u168, u169, u170, u171, u172, u173, u174, u175, u176, u177, u178, u179, u180, u181, u182, u183, u184, u185, u186, u187, u188, u189, u190, u191, u192, u193, u194, u195, u196, u197, u198, u199, u200, u201, u202, u203, u204, u205, u206, u207, u208, u209, u210, u211, u212, u213, u214, u215, u216, u217, u218, u219, u220, u221, u222, u223, u224, u225, u226, u227, u228, u229, u230, u231, u232], []⟩ w := by
  conv => arg 2; whnf
  have HL : Hid (G.length ≤ 24) := Lib.hid (by rw [SF.out.len]; exact SF.out.tree.n2)
  have HE : Hid (eoV P W = endL P) := Lib.hid (if_pos (treeB_iff.2 SF.out.tree))
  have HT : Hid (treeB P W = true) := Lib.hid (treeB_iff.2 SF.out.tree)
  have HE24 : Hid ((endL P).length ≤ 24) := Lib.hid (Nat.le_trans (enTo_len P P.length) SF.out.tree.n2)
  have k0 := bx.1
  have k1 := bx.2.1
  have k2 := bx.2.2.1
  go_wp2_with fail
  have CC := implWh_c A1 P c1 A2 W c2 A3 F c3 0 AH H cH _ h rH (by omega)
  rw [SF.out.wh, SF.out.hl] at CC
  refine (CC).mono ?_
  rintro e w1 ⟨Ag1, cg1, rfl, og1, bq⟩
  clear CC k0 k1 k2
  replace h := h.below bq (Nat.le_refl _)
  replace bx := bx.below bq
  replace rH := rH.below bq (Nat.le_refl _)
  have HB1 := bUp HB bq HB.size
  clear HB
  clear bq
  have rg1 := og1.rd
  clear og1
  have k0 := bx.1
  have k1 := bx.2.1
  have k2 := bx.2.2.1
  go_wp2_with fail
  have CC := implEo_c A1 P c1 A2 W c2 _ h.r1 h.r2 h.l1 h.l2
  rw [HE.out, HT.out] at CC
  refine (CC).mono ?_
  rintro e w2 ⟨Ae, ce, rfl, oe, bq⟩
  clear CC k0 k1 k2
  replace h := h.below bq (Nat.le_refl _)
  replace bx := bx.below bq
  replace rH := rH.below bq (Nat.le_refl _)
  replace rg1 := rg1.below bq (Nat.le_refl _)
  have HB2 := bUp HB1 bq HB1.size
  clear HB1
  clear bq
  have re := oe.rd
  clear oe
  have k0 := bx.1
  have k1 := bx.2.1
  have k2 := bx.2.2.1
  go_wp2_with fail
  have CC := specWh_c A1 P c1 A2 W c2 A3 F c3 0 AH H cH _ h rH (by omega)
  rw [SF.out.wh, SF.out.hl] at CC
  refine (CC).mono ?_
  rintro e w3 ⟨Ag2, cg2, rfl, og2, bq⟩
  clear CC k0 k1 k2
  replace h := h.below bq (Nat.le_refl _)
  replace bx := bx.below bq
  replace rH := rH.below bq (Nat.le_refl _)
  replace rg1 := rg1.below bq (Nat.le_refl _)
  replace re := re.below bq (Nat.le_refl _)
  have HB3 := bUp HB2 bq HB2.size
  clear HB2
  clear bq
  have rg2 := og2.rd
  clear og2
  go_wp2_with fail
  refine (rInts_same Ag1 Ag2 G _ _ cg1 cg2 _ rfl rfl rg1 rg2 (Nat.le_trans HL.out (by decide))).mono ?_
  rintro e w4 ⟨rfl, bq⟩
  replace h := h.below bq (Nat.le_refl _)
  replace bx := bx.below bq
  replace rH := rH.below bq (Nat.le_refl _)
  replace rg1 := rg1.below bq (Nat.le_refl _)
  replace re := re.below bq (Nat.le_refl _)
  replace rg2 := rg2.below bq (Nat.le_refl _)
  have HB4 := bUp HB3 bq HB3.size
  clear HB3
  clear bq
  clear rg2
  go_wp2_with fail
  go_loopw [37, 38] (fun q i wr => ∃ (n : Nat) (b : Bool), n ≤ G.length ∧ i = .int .i64 (n : Int) ∧ q = .bool b ∧ (∀ e, e < n → endB P e = true → 0 < nth G e → b = true) ∧ Below w4.heap.size w4 wr) (fun _ i _ => G.length - (intOf i).toNat)
  case atStart => exact ⟨0, false, by omega, rfl, rfl, fun e he => by omega, Below.refl _ _⟩
  case round =>
    obtain ⟨v, rfl⟩ : ∃ v : World, v = wr := ⟨_, rfl⟩
    obtain ⟨n, b, hn, rfl, rfl, hall, HV⟩ := hrel
    have HA := Lib.hid hall
    have HNN := Lib.hid hn
    clear hall
    by_cases hlt : n < G.length
    · have hnP : n < P.length := by have := SF.out.len; omega
      have CH := rHas_c Ae (endL P) ce (n : Int) v (re.below HV (Nat.le_refl _)) (Nat.le_trans HE24.out (by decide))
      rw [has_end hnP] at CH
      obtain ⟨ag, rfl, q1⟩ := (rg1.below HV (Nat.le_refl _)).intN hlt
      have in_ : (n : Int) < (G.length : Int) := by omega
      have hL24 := HL.out
      have hnn := SF.out.nn n hnP
      cases he : endB P n
      · rw [he] at CH
        have HA2 : Hid (∀ e, e < n + 1 → endB P e = true → 0 < nth G e → b = true) := Lib.hid fun e h1 h2 h3 => by
          rcases Nat.lt_or_ge e n with h4 | h4
          · exact HA.out e h4 h2 h3
          · rw [show e = n by omega, he] at h2; cases h2
        clear he
        go_wp2_with fail
        refine CH.mono ?_
        rintro e w' ⟨rfl, rfl⟩
        clear CH
        go_wp2_with fail
        go_roundw
        case rel => exact ⟨n + 1, b, by omega, by go_num, rfl, HA2.out, HV⟩
        case measure => simp [intOf] <;> omega
      · rw [he] at CH
        have hn0 : ¬ nth G n < 0 := by omega
        have HA2 : Hid (∀ e, e < n + 1 → endB P e = true → 0 < nth G e → (b || decide (0 < nth G n)) = true) := Lib.hid fun e h1 h2 h3 => by
          rcases Nat.lt_or_ge e n with h4 | h4
          · rw [HA.out e h4 h2 h3]; rfl
          · rw [show e = n by omega] at h3
            rw [decide_eq_true h3, Bool.or_true]
        clear he
        cases b
        · rw [Bool.false_or] at HA2
          go_wp2_with fail
          refine CH.mono ?_
          rintro e w' ⟨rfl, rfl⟩
          clear CH
          go_wp2_with fail
          go_roundw
          case rel => exact ⟨n + 1, decide (0 < nth G n), by omega, by go_num, rfl, HA2.out, HV⟩
          case measure => simp [intOf] <;> omega
        · rw [Bool.true_or] at HA2
          go_wp2_with fail
          refine CH.mono ?_
          rintro e w' ⟨rfl, rfl⟩
          clear CH
          go_wp2_with fail
          go_roundw
          case rel => exact ⟨n + 1, true, by omega, by go_num, rfl, fun _ _ _ _ => rfl, HV⟩
          case measure => simp [intOf] <;> omega
    · have hb : b = true := by
        obtain ⟨e, h1, h2, h3⟩ := SF.out.pos
        exact HA.out e (by have := SF.out.len; omega) h2 h3
      subst hb
      go_wp2_with fail
      go_ret
      exact ⟨rfl, bUp HB4 HV HB4.size⟩
/-- Where there is a gain. -/
def SdIf (P W F H G : List Int) (ok : Bool) : Prop := ok = true → SdFacts P W F H G
noncomputable def sd25 : Code := ((Try.f4.body.bind (restFrom 25)).getD .skip)
set_option maxRecDepth 100000 in
set_option maxHeartbeats 16000000 in
theorem sdWealth (A1 : Option Addr) (P : List Int) (c1 : Nat) (A2 : Option Addr) (W : List Int) (c2 : Nat) (A3 : Option Addr) (F : List Int) (c3 : Nat) (A : Option Addr) (bs : List Int) (c : Nat) (gm : Nat) (AH : Option Addr) (H : List Int) (cH : Nat) (G : List Int) (ok : Bool) (hH : H.length ≤ 24) (SF : Hid (SdIf P W F H G ok)) (w0 w : World) (rc : Rd w A (u8s bs)) (hb : ByOk bs) (hl : bs.length ≤ 65536) (HB : Below w0.heap.size w0 w) (h : RdM w A1 P A2 W A3 F) (bx : Bx3 w gm (.slice A1 P.length c1) (.slice A2 W.length c2) (.slice A3 F.length c3)) (rH : Rd w AH (ints H)) (u1 u2 u6 u7 u8 u9 u10 u11 u12 u13 u14 u15 u16 u17 u18 u19 u20 u21 u22 u23 u24 u25 u26 u27 u28 u29 u30 u31 u32 u33 u34 u35 u36 u37 u38 u39 u40 u41 u42 u43 u44 u45 u46 u47 u48 u49 u50 u51 u52 u53 u54 u55 u56 u57 u58 u59 u60 u61 u62 u63 u64 u65 u66 u67 u68 u69 u70 u71 u72 u73 u74 u75 u76 u77 u78 u79 u80 u81 u82 u83 u84 u85 u86 u87 u88 u89 u90 u91 u92 u93 u94 u95 u96 u97 u98 u99 u100 u101 u102 u103 u104 u105 u106 u107 u108 u109 u110 u111 u112 u113 u114 u115 u116 u117 u118 u119 u120 u121 u122 u123 u124 u125 u126 u127 u128 u129 u130 u131 u132 u133 u134 u135 u136 u137 u138 u139 u140 u141 u142 u143 u144 u145 u146 u147 u148 u149 u150 u151 u152 u153 u154 u155 u156 u157 u158 u159 u160 u161 u162 u163 u164 u165 u166 u167 u168 u169 u170 u171 u172 u173 u174 u175 u176 u177 u178 u179 u180 u181 u182 u183 u184 u185 u186 u187 u188 u189 u190 u191 u192 u193 u194 u195 u196 u197 u198 u199 u200 u201 u202 u203 u204 u205 u206 u207 u208 u209 u210 u211 u212 u213 u214 u215 u216 u217 u218 u219 u220 u221 u222 u223 u224 u225 u226 u227 u228 u229 u230 u231 u232 : Value) :
    Code.wp Try.prog sd25 (bodyPost Try.prog Try.f4 fun e w' => e = .returned (.bool true) ∧ Below w0.heap.size w0 w') ⟨#[.slice A bs.length c, u1, u2, .pointer (some ⟨gm, 0, none⟩), .slice AH H.length cH, .bool ok, u6, u7, u8, u9, u10, u11, u12, u13, u14, u15, u16, u17, u18, u19, u20, u21, u22, u23, u24, u25, u26, u27, u28, u29, u30, u31, u32, u33, u34, u35, u36, u37, u38, u39, u40, u41, u42, u43, u44, u45, u46, u47, u48, u49, u50, u51, u52, u53, u54, u55, u56, u57, u58, u59, u60, u61, u62, u63, u64, u65, u66, u67, u68, u69, u70, u71, u72, u73, u74, u75, u76, u77, u78, u79, u80, u81, u82, u83, u84, u85, u86, u87, u88, u89, u90, u91, u92, u93, u94, u95, u96, u97, u98, u99, u100, u101, u102, u103, u104, u105, u106, u107, u108, u109, u110, u111, u112, u113, u114, u115, u116, u117, u118, u119, u120, u121, u122, u123, u124, u125, u126, u127, u128, u129, u130, u131, u132, u133, u134, u135, u136, u137, u138, u139, u140, u141, u142, u143, u144, u145, u146, u147, u148, u149, u150, u151, u152, u153, u154, u155, u156, u157, u158, u159, u160, u161, u162, u163, u164, u165, u166, u167, u168, u169, u170, u171, u172, u173, u174, u175, u176, u177, u178, u179, u180, u181, u182, u183, u184, u185, u186, u187, u188, u189, u190, u191, u192, u193, u194, u195, u196, u197, u198, u199, u200, u201, u202, u203, u204, u205, u206, u207, u208, u209, u210, u211, u212, u213, u214, u215, u216, u217, u218, u219, u220, u221, u222, u223, u224, u225, u226, u227, u228, u229, u230, u231, u232], []⟩ w := by
  conv => arg 2; whnf
  go_wp2_with fail
  refine (drawWh_c A bs c _ rc hb (by omega)).mono ?_
  rintro e w1 ⟨B1, d1, Q, B2, d2, V, B3, d3, E, s, B4, d4, X, rfl, hQ, hV, hE, hX, g, rX, b1⟩
  have blB : Below w1.heap.size w1 (w1.alloc (.cells #[.slice B1 Q.length d1, .slice B2 V.length d2, .slice B3 E.length d3] 28)) := (Below.refl _ _).alloc (Nat.le_refl _) _
  have by_ := Bx3.new w1 (.slice B1 Q.length d1) (.slice B2 V.length d2) (.slice B3 E.length d3) 28
  have b1' := bUp b1 blB b1.size
  replace g := g.below blB (Nat.le_refl _)
  replace rX := rX.below blB (Nat.le_refl _)
  replace h := h.below b1' (Nat.le_refl _)
  replace rH := rH.below b1' (Nat.le_refl _)
  replace bx := bx.below b1'
  have HB1 := bUp HB b1' HB.size
  have hwl := whV_length Q V E X s
  have WW := fun (B1 : Option Addr) d1 (B2 : Option Addr) d2 (B3 : Option Addr) d3 (B4 : Option Addr) d4 w => And.intro (implWh_c B1 Q d1 B2 V d2 B3 E d3 s B4 X d4 w) (specWh_c B1 Q d1 B2 V d2 B3 E d3 s B4 X d4 w)
  generalize whV Q V E X s = Y at *
  generalize hlB Q V E X s = yb at *
  have HWW := Lib.hid WW
  clear WW b1 b1' blB rc hb hl HB
  go_wp2_with fail
  generalize w1.alloc (.cells #[.slice B1 Q.length d1, .slice B2 V.length d2, .slice B3 E.length d3] 28) = v1 at *
  obtain ⟨gn, hgn⟩ : ∃ gn, gn = w1.heap.size := ⟨_, rfl⟩
  rw [← hgn] at by_ ⊢
  clear hgn
  refine ((HWW.out B1 d1 B2 d2 B3 d3 B4 d4 _).1 g rX (by omega)).mono ?_
  rintro e w2 ⟨Ay1, cy1, rfl, oy1, bq⟩
  replace g := g.below bq (Nat.le_refl _)
  replace rX := rX.below bq (Nat.le_refl _)
  replace h := h.below bq (Nat.le_refl _)
  replace rH := rH.below bq (Nat.le_refl _)
  replace bx := bx.below bq
  replace by_ := by_.below bq
  have HB2 := bUp HB1 bq HB1.size
  clear HB1
  clear bq
  have ry1 := oy1.rd
  clear oy1
  have k0 := by_.1
  have k1 := by_.2.1
  have k2 := by_.2.2.1
  go_wp2_with fail
  refine ((HWW.out B1 d1 B2 d2 B3 d3 B4 d4 _).2 g rX (by omega)).mono ?_
  rintro e w3 ⟨Ay2, cy2, rfl, oy2, bq⟩
  clear k0 k1 k2
  replace g := g.below bq (Nat.le_refl _)
  replace rX := rX.below bq (Nat.le_refl _)
  replace h := h.below bq (Nat.le_refl _)
  replace rH := rH.below bq (Nat.le_refl _)
  replace bx := bx.below bq
  replace by_ := by_.below bq
  replace ry1 := ry1.below bq (Nat.le_refl _)
  have HB3 := bUp HB2 bq HB2.size
  clear HB2
  clear bq
  have ry2 := oy2.rd
  clear oy2
  go_wp2_with fail
  refine (rInts_same Ay1 Ay2 Y _ _ cy1 cy2 _ rfl rfl ry1 ry2 (by omega)).mono ?_
  rintro e w4 ⟨rfl, bq⟩
  replace g := g.below bq (Nat.le_refl _)
  replace rX := rX.below bq (Nat.le_refl _)
  replace h := h.below bq (Nat.le_refl _)
  replace rH := rH.below bq (Nat.le_refl _)
  replace bx := bx.below bq
  replace by_ := by_.below bq
  replace ry1 := ry1.below bq (Nat.le_refl _)
  replace ry2 := ry2.below bq (Nat.le_refl _)
  have HB4 := bUp HB3 bq HB3.size
  clear HB3
  clear bq
  clear ry1 ry2 g rX by_
  go_upto_region 30 with fail
  rename_i K1 hK1 K0 hK0
  replace hK1 := Lib.hid hK1
  cases ok
  · go_wp2_with fail
    go_ret
    exact ⟨rfl, HB4⟩
  · have SF1 := Lib.hid (SF.out rfl)
    go_wp2_with fail
    refine hK1.out _ _ ?_
    exact sdEnd A1 P c1 A2 W c2 A3 F c3 gm AH H cH G hH SF1 w0 _ HB4 h bx rH _ _ _ _ _ _ _ _ _ _ _ _ _ _ _ _ _ _ _ _ _ _ _ _ _ _ _ _ _ _ _ _ _ _ _ _ _ _ _ _ _ _ _ _ _ _ _ _ _ _ _ _ _ _ _ _ _ _ _ _ _ _ _ _ _ _ _ _ _ _ _ _ _ _ _ _ _ _ _ _ _ _ _ _ _ _ _ _ _ _ _ _ _ _ _ _ _ _ _ _ _ _ _ _ _ _ _ _ _ _ _ _ _ _ _ _ _ _ _ _ _ _ _ _ _ _ _ _ _ _ _ _ _ _ _ _ _ _ _ _ _ _ _ _ _ _ _ _ _ _ _ _ _ _ _ _ _ _ _ _ _ _ _ _ _ _ _ _ _ _ _ _ _ _ _ _ _ _ _ _ _ _ _ _ _ _ _ _ _ _ _ _ _ _ _ _ _ _ _ _ _ _ _ _ _ _ _ _ _ _ _ _ _ _ _ _ _ _ _ _ _ _ _ _ _ _ _ _ _ _ _
noncomputable def sd16 : Code := ((Try.f4.body.bind (restFrom 16)).getD .skip)
set_option maxRecDepth 100000 in
set_option maxHeartbeats 16000000 in
theorem sdFair (A1 : Option Addr) (P : List Int) (c1 : Nat) (A2 : Option Addr) (W : List Int) (c2 : Nat) (A3 : Option Addr) (F : List Int) (c3 : Nat) (A : Option Addr) (bs : List Int) (c : Nat) (gm : Nat) (AH : Option Addr) (H : List Int) (cH : Nat) (G : List Int) (ok : Bool) (hH : H.length ≤ 24) (SF : Hid (SdIf P W F H G ok)) (w0 w : World) (rc : Rd w A (u8s bs)) (hb : ByOk bs) (hl : bs.length ≤ 65536) (HB : Below w0.heap.size w0 w) (h : RdM w A1 P A2 W A3 F) (bx : Bx3 w gm (.slice A1 P.length c1) (.slice A2 W.length c2) (.slice A3 F.length c3)) (rH : Rd w AH (ints H)) (u1 u2 u6 u7 u8 u9 u10 u11 u12 u13 u14 u15 u16 u17 u18 u19 u20 u21 u22 u23 u24 u25 u26 u27 u28 u29 u30 u31 u32 u33 u34 u35 u36 u37 u38 u39 u40 u41 u42 u43 u44 u45 u46 u47 u48 u49 u50 u51 u52 u53 u54 u55 u56 u57 u58 u59 u60 u61 u62 u63 u64 u65 u66 u67 u68 u69 u70 u71 u72 u73 u74 u75 u76 u77 u78 u79 u80 u81 u82 u83 u84 u85 u86 u87 u88 u89 u90 u91 u92 u93 u94 u95 u96 u97 u98 u99 u100 u101 u102 u103 u104 u105 u106 u107 u108 u109 u110 u111 u112 u113 u114 u115 u116 u117 u118 u119 u120 u121 u122 u123 u124 u125 u126 u127 u128 u129 u130 u131 u132 u133 u134 u135 u136 u137 u138 u139 u140 u141 u142 u143 u144 u145 u146 u147 u148 u149 u150 u151 u152 u153 u154 u155 u156 u157 u158 u159 u160 u161 u162 u163 u164 u165 u166 u167 u168 u169 u170 u171 u172 u173 u174 u175 u176 u177 u178 u179 u180 u181 u182 u183 u184 u185 u186 u187 u188 u189 u190 u191 u192 u193 u194 u195 u196 u197 u198 u199 u200 u201 u202 u203 u204 u205 u206 u207 u208 u209 u210 u211 u212 u213 u214 u215 u216 u217 u218 u219 u220 u221 u222 u223 u224 u225 u226 u227 u228 u229 u230 u231 u232 : Value) :
    Code.wp Try.prog sd16 (bodyPost Try.prog Try.f4 fun e w' => e = .returned (.bool true) ∧ Below w0.heap.size w0 w') ⟨#[.slice A bs.length c, u1, u2, .pointer (some ⟨gm, 0, none⟩), .slice AH H.length cH, .bool ok, u6, u7, u8, u9, u10, u11, u12, u13, u14, u15, u16, u17, u18, u19, u20, u21, u22, u23, u24, u25, u26, u27, u28, u29, u30, u31, u32, u33, u34, u35, u36, u37, u38, u39, u40, u41, u42, u43, u44, u45, u46, u47, u48, u49, u50, u51, u52, u53, u54, u55, u56, u57, u58, u59, u60, u61, u62, u63, u64, u65, u66, u67, u68, u69, u70, u71, u72, u73, u74, u75, u76, u77, u78, u79, u80, u81, u82, u83, u84, u85, u86, u87, u88, u89, u90, u91, u92, u93, u94, u95, u96, u97, u98, u99, u100, u101, u102, u103, u104, u105, u106, u107, u108, u109, u110, u111, u112, u113, u114, u115, u116, u117, u118, u119, u120, u121, u122, u123, u124, u125, u126, u127, u128, u129, u130, u131, u132, u133, u134, u135, u136, u137, u138, u139, u140, u141, u142, u143, u144, u145, u146, u147, u148, u149, u150, u151, u152, u153, u154, u155, u156, u157, u158, u159, u160, u161, u162, u163, u164, u165, u166, u167, u168, u169, u170, u171, u172, u173, u174, u175, u176, u177, u178, u179, u180, u181, u182, u183, u184, u185, u186, u187, u188, u189, u190, u191, u192, u193, u194, u195, u196, u197, u198, u199, u200, u201, u202, u203, u204, u205, u206, u207, u208, u209, u210, u211, u212, u213, u214, u215, u216, u217, u218, u219, u220, u221, u222, u223, u224, u225, u226, u227, u228, u229, u230, u231, u232], []⟩ w := by
  conv => arg 2; whnf
  go_wp2_with fail
  refine (drawFw_c A bs c _ rc hb (by omega)).mono ?_
  rintro e w1 ⟨B1, d1, Q, B2, d2, V, B3, d3, E, B4, d4, X, rfl, hQ, hV, hE, hX, g, rX, b1⟩
  have blB : Below w1.heap.size w1 (w1.alloc (.cells #[.slice B1 Q.length d1, .slice B2 V.length d2, .slice B3 E.length d3] 28)) := (Below.refl _ _).alloc (Nat.le_refl _) _
  have by_ := Bx3.new w1 (.slice B1 Q.length d1) (.slice B2 V.length d2) (.slice B3 E.length d3) 28
  have b1' := bUp b1 blB b1.size
  replace g := g.below blB (Nat.le_refl _)
  replace rX := rX.below blB (Nat.le_refl _)
  replace rc := rc.below b1' (Nat.le_refl _)
  replace h := h.below b1' (Nat.le_refl _)
  replace rH := rH.below b1' (Nat.le_refl _)
  replace bx := bx.below b1'
  have HB1 := bUp HB b1' HB.size
  obtain ⟨f, hf⟩ := nameS (fwV Q V E X)
  obtain ⟨fb, hfb⟩ := nameS (fwB Q V E X)
  have HF := Lib.hid (And.intro hf hfb)
  clear hf hfb b1 b1' blB HB
  go_wp2_with fail
  generalize w1.alloc (.cells #[.slice B1 Q.length d1, .slice B2 V.length d2, .slice B3 E.length d3] 28) = v1 at *
  obtain ⟨gn, hgn⟩ : ∃ gn, gn = w1.heap.size := ⟨_, rfl⟩
  rw [← hgn] at by_ ⊢
  clear hgn
  have CC := implFw_c B1 Q d1 B2 V d2 B3 E d3 B4 X d4 _ g rX (by omega)
  rw [HF.out.1, HF.out.2] at CC
  refine (CC).mono ?_
  rintro e w2 ⟨rfl, bq⟩
  clear CC
  replace g := g.below bq (Nat.le_refl _)
  replace rX := rX.below bq (Nat.le_refl _)
  replace rc := rc.below bq (Nat.le_refl _)
  replace h := h.below bq (Nat.le_refl _)
  replace rH := rH.below bq (Nat.le_refl _)
  replace bx := bx.below bq
  replace by_ := by_.below bq
  have HB2 := bUp HB1 bq HB1.size
  clear HB1
  clear bq
  have k0 := by_.1
  have k1 := by_.2.1
  have k2 := by_.2.2.1
  go_wp2_with fail
  have CC := specFw_c B1 Q d1 B2 V d2 B3 E d3 B4 X d4 _ g rX (by omega)
  rw [HF.out.1, HF.out.2] at CC
  refine (CC).mono ?_
  rintro e w3 ⟨rfl, bq⟩
  clear CC k0 k1 k2
  replace g := g.below bq (Nat.le_refl _)
  replace rX := rX.below bq (Nat.le_refl _)
  replace rc := rc.below bq (Nat.le_refl _)
  replace h := h.below bq (Nat.le_refl _)
  replace rH := rH.below bq (Nat.le_refl _)
  replace bx := bx.below bq
  replace by_ := by_.below bq
  have HB3 := bUp HB2 bq HB2.size
  clear HB2
  clear bq
  go_upto_region 21 with fail
  rename_i K1 hK1 K0 hK0
  replace hK1 := Lib.hid hK1
  cases f
  · go_wp2_with fail
    refine hK1.out _ _ ?_
    exact sdWealth A1 P c1 A2 W c2 A3 F c3 A bs c gm AH H cH G ok hH SF w0 _ rc hb hl HB3 h bx rH _ _ _ _ _ _ _ _ _ _ _ _ _ _ _ _ _ _ _ _ _ _ _ _ _ _ _ _ _ _ _ _ _ _ _ _ _ _ _ _ _ _ _ _ _ _ _ _ _ _ _ _ _ _ _ _ _ _ _ _ _ _ _ _ _ _ _ _ _ _ _ _ _ _ _ _ _ _ _ _ _ _ _ _ _ _ _ _ _ _ _ _ _ _ _ _ _ _ _ _ _ _ _ _ _ _ _ _ _ _ _ _ _ _ _ _ _ _ _ _ _ _ _ _ _ _ _ _ _ _ _ _ _ _ _ _ _ _ _ _ _ _ _ _ _ _ _ _ _ _ _ _ _ _ _ _ _ _ _ _ _ _ _ _ _ _ _ _ _ _ _ _ _ _ _ _ _ _ _ _ _ _ _ _ _ _ _ _ _ _ _ _ _ _ _ _ _ _ _ _ _ _ _ _ _ _ _ _ _ _ _ _ _ _ _ _ _ _ _ _ _ _ _ _ _ _ _ _ _
  · have hev := fair_even HF.out.1
    have HNO : Hid (fgB Q V E = false) := Lib.hid (fgB_2 hev)
    have k0 := by_.1
    have k1 := by_.2.1
    have k2 := by_.2.2.1
    clear hev
    go_wp2_with fail
    have CC := unevenNode_c B1 Q d1 B2 V d2 B3 E d3 _ g
    rw [HNO.out] at CC
    refine CC.mono ?_
    rintro e w4 ⟨rfl, bq⟩
    have HBz := bUp HB3 bq HB3.size
    replace rc := rc.below bq (Nat.le_refl _)
    replace h := h.below bq (Nat.le_refl _)
    replace rH := rH.below bq (Nat.le_refl _)
    replace bx := bx.below bq
    clear CC k0 k1 k2 g rX by_
    go_wp2_with fail
    refine hK1.out _ _ ?_
    exact sdWealth A1 P c1 A2 W c2 A3 F c3 A bs c gm AH H cH G ok hH SF w0 _ rc hb hl HBz h bx rH _ _ _ _ _ _ _ _ _ _ _ _ _ _ _ _ _ _ _ _ _ _ _ _ _ _ _ _ _ _ _ _ _ _ _ _ _ _ _ _ _ _ _ _ _ _ _ _ _ _ _ _ _ _ _ _ _ _ _ _ _ _ _ _ _ _ _ _ _ _ _ _ _ _ _ _ _ _ _ _ _ _ _ _ _ _ _ _ _ _ _ _ _ _ _ _ _ _ _ _ _ _ _ _ _ _ _ _ _ _ _ _ _ _ _ _ _ _ _ _ _ _ _ _ _ _ _ _ _ _ _ _ _ _ _ _ _ _ _ _ _ _ _ _ _ _ _ _ _ _ _ _ _ _ _ _ _ _ _ _ _ _ _ _ _ _ _ _ _ _ _ _ _ _ _ _ _ _ _ _ _ _ _ _ _ _ _ _ _ _ _ _ _ _ _ _ _ _ _ _ _ _ _ _ _ _ _ _ _ _ _ _ _ _ _ _ _ _ _ _ _ _ _ _ _ _ _ _ _
set_option maxRecDepth 100000 in
set_option maxHeartbeats 16000000 in
theorem lawSd (A : Option Addr) (bs : List Int) (c : Nat) (w : World) (rc : Rd w A (u8s bs)) (hb : ByOk bs) (hlen : bs.length ≤ 9223372036854775807) (_hc : bs.length ≤ c) :
    Calls Try.prog 4 #[.slice A bs.length c] w fun e w' => e = .returned (.bool true) ∧ Below w.heap.size w w' := by
  by_cases hbig : 65536 < (bs.length : Int)
  · have C := rBigS_c A bs c w hlen
    rw [decide_eq_true hbig] at C
    go_enter Try.func4, Try.ntmps4
    go_wp2_with fail
    refine C.mono ?_
    rintro e w' ⟨rfl, rfl⟩
    go_wp2
    go_ret
    exact ⟨rfl, Below.refl _ _⟩
  have hl : bs.length ≤ 65536 := by omega
  have C := rBigS_c A bs c w hlen
  rw [decide_eq_false hbig] at C
  clear hbig
  go_enter Try.func4, Try.ntmps4
  go_wp2_with fail
  refine C.mono ?_
  rintro e w' ⟨rfl, rfl⟩
  clear C
  go_wp2_with fail
  refine (drawFg_c A bs c w rc hb (by omega)).mono ?_
  rintro e w1 ⟨A1, c1, P, A2, c2, W, A3, c3, F, rfl, hP, hW, hF, o1, o2, o3, b1⟩
  have blB : Below w1.heap.size w1 (w1.alloc (.cells #[.slice A1 P.length c1, .slice A2 W.length c2, .slice A3 F.length c3] 28)) := (Below.refl _ _).alloc (Nat.le_refl _) _
  have bx := Bx3.new w1 (.slice A1 P.length c1) (.slice A2 W.length c2) (.slice A3 F.length c3) 28
  have h : RdM w1 A1 P A2 W A3 F := ⟨o1.rd, o2.rd, o3.rd, by omega, by omega, by omega⟩
  have HB1 := bUp b1 blB b1.size
  replace rc := rc.below HB1 (Nat.le_refl _)
  replace h := h.below blB (Nat.le_refl _)
  have hsf : SdIf P W F (fgV P W F) (wl P F (fgV P W F) 0) (fgB P W F) := sd_facts
  have hHl := fgV_length P W F
  have F1 := fun (A1 : Option Addr) c1 (A2 : Option Addr) c2 (A3 : Option Addr) c3 w => And.intro (implFg_c A1 P c1 A2 W c2 A3 F c3 w) (specFg_c A1 P c1 A2 W c2 A3 F c3 w)
  have F2 := fun (A1 : Option Addr) c1 (A2 : Option Addr) c2 (A3 : Option Addr) c3 w => And.intro (unevenNode_c A1 P c1 A2 W c2 A3 F c3 w) (specUn_c A1 P c1 A2 W c2 A3 F c3 w)
  have F3 := fun (A1 : Option Addr) c1 (A2 : Option Addr) c2 (A3 : Option Addr) c3 w => And.intro (implFull_c A1 P c1 A2 W c2 A3 F c3 w) (specFull_c A1 P c1 A2 W c2 A3 F c3 w)
  have F4 := fun (A1 : Option Addr) c1 (A2 : Option Addr) c2 (A3 : Option Addr) c3 w => isMarket_c A1 P c1 A2 W c2 A3 F c3 w
  have hsd : sndB P W F = (mktB P W F && !fgB P W F) := by
    unfold sndB fgB
    cases mktB P W F <;> by_cases hu : unK P F = -1 <;> simp [hu]
  generalize wl P F (fgV P W F) 0 = G at *
  generalize fgV P W F = H at *
  generalize (if fgB P W F = true then unK P F else 0) = nd at *
  generalize fgB P W F = ok at *
  generalize fuV P W F = fu at *
  generalize sndB P W F = sb at *
  generalize mktB P W F = mb at *
  subst hsd
  have SF := Lib.hid hsf
  have HF1 := Lib.hid F1
  have HF2 := Lib.hid F2
  have HF3 := Lib.hid F3
  have HF4 := Lib.hid F4
  clear hsf F1 F2 F3 F4 b1 blB o1 o2 o3
  go_wp2_with fail
  generalize w1.alloc (.cells #[.slice A1 P.length c1, .slice A2 W.length c2, .slice A3 F.length c3] 28) = v1 at *
  obtain ⟨gm, hgm⟩ : ∃ gm, gm = w1.heap.size := ⟨_, rfl⟩
  rw [← hgm] at bx ⊢
  clear hgm
  refine ((HF1.out A1 c1 A2 c2 A3 c3 _).1 h).mono ?_
  rintro e w2 ⟨AH1, cH1, rfl, oH1, bq⟩
  replace rc := rc.below bq (Nat.le_refl _)
  replace h := h.below bq (Nat.le_refl _)
  replace bx := bx.below bq
  have HB2 := bUp HB1 bq HB1.size
  clear HB1
  clear bq
  have rH1 := oH1.rd
  clear oH1
  have k0 := bx.1
  have k1 := bx.2.1
  have k2 := bx.2.2.1
  go_wp2_with fail
  refine ((HF1.out A1 c1 A2 c2 A3 c3 _).2 h).mono ?_
  rintro e w3 ⟨AH2, cH2, rfl, oH2, bq⟩
  clear k0 k1 k2
  replace rc := rc.below bq (Nat.le_refl _)
  replace h := h.below bq (Nat.le_refl _)
  replace bx := bx.below bq
  replace rH1 := rH1.below bq (Nat.le_refl _)
  have HB3 := bUp HB2 bq HB2.size
  clear HB2
  clear bq
  have rH2 := oH2.rd
  clear oH2
  go_wp2_with fail
  refine (rInts_same AH1 AH2 H _ _ cH1 cH2 _ rfl rfl rH1 rH2 (by omega)).mono ?_
  rintro e w4 ⟨rfl, bq⟩
  replace rc := rc.below bq (Nat.le_refl _)
  replace h := h.below bq (Nat.le_refl _)
  replace bx := bx.below bq
  replace rH1 := rH1.below bq (Nat.le_refl _)
  replace rH2 := rH2.below bq (Nat.le_refl _)
  have HB4 := bUp HB3 bq HB3.size
  clear HB3
  clear bq
  clear rH2
  have k0 := bx.1
  have k1 := bx.2.1
  have k2 := bx.2.2.1
  go_wp2_with fail
  refine ((HF2.out A1 c1 A2 c2 A3 c3 _).1 h).mono ?_
  rintro e w5 ⟨rfl, bq⟩
  clear k0 k1 k2
  replace rc := rc.below bq (Nat.le_refl _)
  replace h := h.below bq (Nat.le_refl _)
  replace bx := bx.below bq
  replace rH1 := rH1.below bq (Nat.le_refl _)
  have HB5 := bUp HB4 bq HB4.size
  clear HB4
  clear bq
  have k0 := bx.1
  have k1 := bx.2.1
  have k2 := bx.2.2.1
  go_wp2_with fail
  refine ((HF2.out A1 c1 A2 c2 A3 c3 _).2 h).mono ?_
  rintro e w6 ⟨rfl, bq⟩
  clear k0 k1 k2
  replace rc := rc.below bq (Nat.le_refl _)
  replace h := h.below bq (Nat.le_refl _)
  replace bx := bx.below bq
  replace rH1 := rH1.below bq (Nat.le_refl _)
  have HB6 := bUp HB5 bq HB5.size
  clear HB5
  clear bq
  have k0 := bx.1
  have k1 := bx.2.1
  have k2 := bx.2.2.1
  go_wp2_with fail
  refine ((HF3.out A1 c1 A2 c2 A3 c3 _).1 h).mono ?_
  rintro e w7 ⟨rfl, bq⟩
  clear k0 k1 k2
  replace rc := rc.below bq (Nat.le_refl _)
  replace h := h.below bq (Nat.le_refl _)
  replace bx := bx.below bq
  replace rH1 := rH1.below bq (Nat.le_refl _)
  have HB7 := bUp HB6 bq HB6.size
  clear HB6
  clear bq
  have k0 := bx.1
  have k1 := bx.2.1
  have k2 := bx.2.2.1
  go_wp2_with fail
  refine ((HF3.out A1 c1 A2 c2 A3 c3 _).2 h).mono ?_
  rintro e w8 ⟨rfl, bq⟩
  clear k0 k1 k2
  replace rc := rc.below bq (Nat.le_refl _)
  replace h := h.below bq (Nat.le_refl _)
  replace bx := bx.below bq
  replace rH1 := rH1.below bq (Nat.le_refl _)
  have HB8 := bUp HB7 bq HB7.size
  clear HB7
  clear bq
  have k0 := bx.1
  have k1 := bx.2.1
  have k2 := bx.2.2.1
  go_upto_region 14 with fail
  rename_i K1 hK1 K0 hK0
  replace hK1 := Lib.hid hK1
  go_wp2_with fail
  refine (HF4.out A1 c1 A2 c2 A3 c3 _ h).mono ?_
  rintro e w9 ⟨rfl, bq⟩
  clear k0 k1 k2
  replace rc := rc.below bq (Nat.le_refl _)
  replace h := h.below bq (Nat.le_refl _)
  replace bx := bx.below bq
  replace rH1 := rH1.below bq (Nat.le_refl _)
  have HB9 := bUp HB8 bq HB8.size
  clear HB8
  clear bq
  skip
  cases mb
  · go_wp2_with fail
    refine hK1.out _ _ ?_
    exact sdFair A1 P c1 A2 W c2 A3 F c3 A bs c _ AH1 H cH1 G ok (by omega) SF w _ rc hb hl HB9 h bx rH1 _ _ _ _ _ _ _ _ _ _ _ _ _ _ _ _ _ _ _ _ _ _ _ _ _ _ _ _ _ _ _ _ _ _ _ _ _ _ _ _ _ _ _ _ _ _ _ _ _ _ _ _ _ _ _ _ _ _ _ _ _ _ _ _ _ _ _ _ _ _ _ _ _ _ _ _ _ _ _ _ _ _ _ _ _ _ _ _ _ _ _ _ _ _ _ _ _ _ _ _ _ _ _ _ _ _ _ _ _ _ _ _ _ _ _ _ _ _ _ _ _ _ _ _ _ _ _ _ _ _ _ _ _ _ _ _ _ _ _ _ _ _ _ _ _ _ _ _ _ _ _ _ _ _ _ _ _ _ _ _ _ _ _ _ _ _ _ _ _ _ _ _ _ _ _ _ _ _ _ _ _ _ _ _ _ _ _ _ _ _ _ _ _ _ _ _ _ _ _ _ _ _ _ _ _ _ _ _ _ _ _ _ _ _ _ _ _ _ _ _ _ _ _ _ _ _ _ _ _
  cases ok
  · go_wp2_with fail
    refine hK1.out _ _ ?_
    exact sdFair A1 P c1 A2 W c2 A3 F c3 A bs c _ AH1 H cH1 G false (by omega) SF w _ rc hb hl HB9 h bx rH1 _ _ _ _ _ _ _ _ _ _ _ _ _ _ _ _ _ _ _ _ _ _ _ _ _ _ _ _ _ _ _ _ _ _ _ _ _ _ _ _ _ _ _ _ _ _ _ _ _ _ _ _ _ _ _ _ _ _ _ _ _ _ _ _ _ _ _ _ _ _ _ _ _ _ _ _ _ _ _ _ _ _ _ _ _ _ _ _ _ _ _ _ _ _ _ _ _ _ _ _ _ _ _ _ _ _ _ _ _ _ _ _ _ _ _ _ _ _ _ _ _ _ _ _ _ _ _ _ _ _ _ _ _ _ _ _ _ _ _ _ _ _ _ _ _ _ _ _ _ _ _ _ _ _ _ _ _ _ _ _ _ _ _ _ _ _ _ _ _ _ _ _ _ _ _ _ _ _ _ _ _ _ _ _ _ _ _ _ _ _ _ _ _ _ _ _ _ _ _ _ _ _ _ _ _ _ _ _ _ _ _ _ _ _ _ _ _ _ _ _ _ _ _ _ _ _ _ _ _
  · go_wp2_with fail
    refine hK1.out _ _ ?_
    exact sdFair A1 P c1 A2 W c2 A3 F c3 A bs c _ AH1 H cH1 G true (by omega) SF w _ rc hb hl HB9 h bx rH1 _ _ _ _ _ _ _ _ _ _ _ _ _ _ _ _ _ _ _ _ _ _ _ _ _ _ _ _ _ _ _ _ _ _ _ _ _ _ _ _ _ _ _ _ _ _ _ _ _ _ _ _ _ _ _ _ _ _ _ _ _ _ _ _ _ _ _ _ _ _ _ _ _ _ _ _ _ _ _ _ _ _ _ _ _ _ _ _ _ _ _ _ _ _ _ _ _ _ _ _ _ _ _ _ _ _ _ _ _ _ _ _ _ _ _ _ _ _ _ _ _ _ _ _ _ _ _ _ _ _ _ _ _ _ _ _ _ _ _ _ _ _ _ _ _ _ _ _ _ _ _ _ _ _ _ _ _ _ _ _ _ _ _ _ _ _ _ _ _ _ _ _ _ _ _ _ _ _ _ _ _ _ _ _ _ _ _ _ _ _ _ _ _ _ _ _ _ _ _ _ _ _ _ _ _ _ _ _ _ _ _ _ _ _ _ _ _ _ _ _ _ _ _ _ _ _ _ _ _

end Go.Proofs.Ytnhclpajfejnoaa
