/- Children by their prices, and the least node that is not even: the program's walk. -/
import Derived.Test.YtnhclpajfejnoaaMktW
import Derived.Test.YtnhclpajfejnoaaButA
namespace Go.Proofs.Ytnhclpajfejnoaa
open Go.RowKit

theorem less_yes {P F : List Int} {x k : Nat} (hk : k < (kids P (x : Int)).length) (h : nth F (nth (kids P (x : Int)) k).toNat < nth F x) : lessTo P F x (k + 1) = lessTo P F x k ++ [nth (kids P (x : Int)) k] := by
  rw [lessTo, filt_succ hk, decide_eq_true h]; rfl
theorem less_no {P F : List Int} {x k : Nat} (hk : k < (kids P (x : Int)).length) (h : ¬ nth F (nth (kids P (x : Int)) k).toNat < nth F x) : lessTo P F x (k + 1) = lessTo P F x k := by
  rw [lessTo, filt_succ hk, decide_eq_false h]; simp [lessTo]
theorem more_yes {P F : List Int} {x k : Nat} (hk : k < (kids P (x : Int)).length) (h : nth F x < nth F (nth (kids P (x : Int)) k).toNat) : moreTo P F x (k + 1) = moreTo P F x k ++ [nth (kids P (x : Int)) k] := by
  rw [moreTo, filt_succ hk, decide_eq_true h]; rfl
theorem more_no {P F : List Int} {x k : Nat} (hk : k < (kids P (x : Int)).length) (h : ¬ nth F x < nth F (nth (kids P (x : Int)) k).toNat) : moreTo P F x (k + 1) = moreTo P F x k := by
  rw [moreTo, filt_succ hk, decide_eq_false h]; simp [moreTo]
theorem same_yes {P F : List Int} {x k : Nat} (hk : k < (kids P (x : Int)).length) (h : nth F (nth (kids P (x : Int)) k).toNat = nth F x) : sameTo P F x (k + 1) = sameTo P F x k ++ [nth (kids P (x : Int)) k] := by
  rw [sameTo, filt_succ hk, decide_eq_true h]; rfl
theorem same_no {P F : List Int} {x k : Nat} (hk : k < (kids P (x : Int)).length) (h : ¬ nth F (nth (kids P (x : Int)) k).toNat = nth F x) : sameTo P F x (k + 1) = sameTo P F x k := by
  rw [sameTo, filt_succ hk, decide_eq_false h]; simp [sameTo]
theorem side_len (P F : List Int) (x k : Nat) : (lessTo P F x k).length ≤ k ∧ (sameTo P F x k).length ≤ k ∧ (moreTo P F x k).length ≤ k := ⟨filt_len _ _ _, filt_len _ _ _, filt_len _ _ _⟩
theorem kid_nat {P : List Int} {x k : Nat} (hk : k < (kids P (x : Int)).length) : ∃ j : Nat, j < P.length ∧ nth (kids P (x : Int)) k = (j : Int) := by
  rw [nth_eq hk]
  obtain ⟨j, hj, _, he⟩ := mem_kidTo.1 (List.getElem_mem hk)
  exact ⟨j, hj, he⟩
/-- Three rows that lie apart. -/
structure Ap3 (A B C : Option Addr) : Prop where
  ab : blk A ≠ blk B
  ac : blk A ≠ blk C
  bc : blk B ≠ blk C
theorem new_ne {w : World} {B c : Nat} {A A2 : Option Addr} {D : Option Addr} {d e : Nat} {ys : List Int} (hb2 : blk A2 = blk A ∨ ∃ g, blk A2 = some g ∧ w.heap.size ≤ g) (hD : Own w e D d ys) (hD0 : D ≠ none) (hA : blk D ≠ blk A) (_ : B = c) : blk D ≠ blk A2 := by
  rcases hb2 with h | ⟨g, h, hg⟩
  · rw [h]; exact hA
  · rw [h]
    rcases D with _ | a
    · exact absurd rfl hD0
    · have := (hD.lt a rfl).2
      simp [blk]; omega
theorem some_of_blk {A A2 : Option Addr} {w : World} (hA : A ≠ none) (hb2 : blk A2 = blk A ∨ ∃ g, blk A2 = some g ∧ w.heap.size ≤ g) : A2 ≠ none := by
  rcases hb2 with h | ⟨g, h, _⟩
  · intro h'; subst h'; cases A with
    | none => exact hA rfl
    | some a => cases h
  · intro h'; subst h'; cases h

set_option maxRecDepth 20000 in
set_option maxHeartbeats 2000000 in
theorem beside_c (A1 : Option Addr) (P : List Int) (c1 : Nat) (A2 : Option Addr) (n2 c2 : Nat) (A3 : Option Addr) (F : List Int) (c3 : Nat) (x : Nat) (w : World) (h1 : Rd w A1 (ints P)) (h3 : Rd w A3 (ints F)) (hn : P.length ≤ 24) (hF : F.length = P.length) (hx : x < P.length) :
    Calls Try.prog 76 #[mkV A1 P.length c1 A2 n2 c2 A3 F.length c3, .int .i64 (x : Int)] w fun e w' => ∃ A5 c5 A6 c6 A7 c7,
      e = .returned (.tuple #[.slice A5 (lessL P F x).length c5, .slice A6 (sameL P F x).length c6, .slice A7 (moreL P F x).length c7]) ∧
      Own w' w.heap.size A5 c5 (lessL P F x) ∧ Own w' w.heap.size A6 c6 (sameL P F x) ∧ Own w' w.heap.size A7 c7 (moreL P F x) ∧ Below w.heap.size w w' := by
  have HF := Lib.hid hF
  have HB1 : Below w.heap.size w ((((w.alloc (.cells #[.slice A1 P.length c1, .slice A2 n2 c2, .slice A3 F.length c3] 28)).alloc (.cells #[] 3)).alloc (.cells #[] 3)).alloc (.cells #[] 3)) := by
    with_reducible repeat (first | exact Below.refl _ _ | refine Below.alloc ?_ (by simp <;> omega) _)
  have bx := (((Bx3.new w (.slice A1 P.length c1) (.slice A2 n2 c2) (.slice A3 F.length c3) 28).alloc (.cells #[] 3)).alloc (.cells #[] 3)).alloc (.cells #[] 3)
  have o5 := ((Own.lit0 (w.alloc (.cells #[.slice A1 P.length c1, .slice A2 n2 c2, .slice A3 F.length c3] 28)) (w.heap.size + 1) (by simp)).alloc (.cells #[] 3)).alloc (.cells #[] 3)
  have o6 := (Own.lit0 ((w.alloc (.cells #[.slice A1 P.length c1, .slice A2 n2 c2, .slice A3 F.length c3] 28)).alloc (.cells #[] 3)) (w.heap.size + 2) (by simp)).alloc (.cells #[] 3)
  have o7 := Own.lit0 (((w.alloc (.cells #[.slice A1 P.length c1, .slice A2 n2 c2, .slice A3 F.length c3] 28)).alloc (.cells #[] 3)).alloc (.cells #[] 3)) (w.heap.size + 3) (by simp)
  have hz : ((((w.alloc (.cells #[.slice A1 P.length c1, .slice A2 n2 c2, .slice A3 F.length c3] 28)).alloc (.cells #[] 3)).alloc (.cells #[] 3)).alloc (.cells #[] 3)).heap.size = w.heap.size + 4 := by simp
  clear hF
  go_enter Try.func76, Try.ntmps76
  go_upto_region 2 with fail
  generalize (((w.alloc (.cells #[.slice A1 P.length c1, .slice A2 n2 c2, .slice A3 F.length c3] 28)).alloc (.cells #[] 3)).alloc (.cells #[] 3)).alloc (.cells #[] 3) = v at *
  obtain ⟨f0, f1, f2, fz⟩ := id bx
  go_wp2_with fail
  refine (children_c A1 P c1 A2 n2 c2 (x : Int) _ (h1.below HB1 (Nat.le_refl _)) hn).mono ?_
  rintro e w2 ⟨Ak, ck, rfl, ok, hb2⟩
  have HB2 := bUp HB1 hb2 HB1.size
  have bx2 := bx.below hb2
  have o52 := o5.below hb2
  have o62 := o6.below hb2
  have o72 := o7.below hb2
  have hkl := kidTo_len P (x : Int) P.length
  change (kids P (x : Int)).length ≤ _ at hkl
  have nk5 := o5.apartR ok (Nat.le_refl _)
  have nk6 := o6.apartR ok (Nat.le_refl _)
  have nk7 := o7.apartR ok (Nat.le_refl _)
  clear f0 f1 f2 fz o5 o6 o7 bx hb2
  go_wp2
  go_loopw [7, 8, 9, 21] (fun s t u i wr => ∃ k : Nat, ∃ A5 c5 A6 c6 A7 c7, k ≤ (kids P (x : Int)).length ∧ i = .int .i64 (k : Int) ∧
      s = .slice A5 (lessTo P F x k).length c5 ∧ t = .slice A6 (sameTo P F x k).length c6 ∧ u = .slice A7 (moreTo P F x k).length c7 ∧
      Own wr (w.heap.size + 1) A5 c5 (lessTo P F x k) ∧ Own wr (w.heap.size + 1) A6 c6 (sameTo P F x k) ∧ Own wr (w.heap.size + 1) A7 c7 (moreTo P F x k) ∧ (A5 ≠ none ∧ A6 ≠ none ∧ A7 ≠ none) ∧ Ap3 A5 A6 A7 ∧
      Own wr v.heap.size Ak ck (kids P (x : Int)) ∧ (Ak = none ∨ blk Ak ≠ blk A5) ∧ (Ak = none ∨ blk Ak ≠ blk A6) ∧ (Ak = none ∨ blk Ak ≠ blk A7) ∧
      Bx3 wr w.heap.size (.slice A1 P.length c1) (.slice A2 n2 c2) (.slice A3 F.length c3) ∧ Below w.heap.size w wr) (fun _ _ _ i _ => (kids P (x : Int)).length - (intOf i).toNat)
  case atStart => exact ⟨0, _, _, _, _, _, _, by omega, rfl, rfl, rfl, rfl, o52, o62.mono (by omega), o72.mono (by omega), ⟨by simp, by simp, by simp⟩, ⟨by simp [blk], by simp [blk], by simp [blk]⟩, ok, nk5, nk6, nk7, bx2, HB2⟩
  case round =>
    obtain ⟨wo, rfl⟩ : ∃ wo : World, wo = wr := ⟨_, rfl⟩
    obtain ⟨k, A5, c5, A6, c6, A7, c7, hk, rfl, rfl, rfl, rfl, p5, p6, p7, hs, hap, pk, m5, m6, m7, hxx, hB⟩ := hrel
    clear o52 o62 o72 ok nk5 nk6 nk7 bx2 HB2
    have hx' := hxx
    obtain ⟨f0, f1, f2, fz⟩ := hxx
    by_cases hlt : k < (kids P (x : Int)).length
    · obtain ⟨j, hj, hjn⟩ := kid_nat hlt
      obtain ⟨ak, rfl, qk⟩ := pk.rd.intN hlt
      rw [hjn] at qk
      obtain ⟨a3, rfl, q3⟩ := (h3.below hB (Nat.le_refl _)).intN (k := j) (by have := HF.out; omega)
      obtain ⟨a3', he3, q3'⟩ := (h3.below hB (Nat.le_refl _)).intN (k := x) (by have := HF.out; omega)
      obtain rfl : a3 = a3' := by injection he3
      have i1 : (j : Int) < (F.length : Int) := by have := HF.out; omega
      have i2 : (x : Int) < (F.length : Int) := by have := HF.out; omega
      have hl := side_len P F x k
      have hbz := hB.size
      have HJ := Lib.hid hjn
      have hjt : (nth (kids P (x : Int)) k).toNat = j := by rw [hjn]; rfl
      have HJT := Lib.hid hjt
      clear hjn hjt he3
      by_cases hc : nth F j < nth F x
      · have HL := Lib.hid (less_yes (F := F) hlt (by rw [HJT.out]; exact hc))
        have HS := Lib.hid (same_no (F := F) hlt (by rw [HJT.out]; omega))
        have HM := Lib.hid (more_no (F := F) hlt (by rw [HJT.out]; omega))
        rw [HJ.out] at HL
        go_wp2_with (at_builtin; refine wp_append1 _ _ _ rfl _ _ rfl (w.heap.size + 1) A5 _ c5 (lessTo P F x k) rfl rfl p5 rfl (by omega) (by omega) ?_; rw [← HL.out]; intro B2 d2 w3 ho2 hg2 hb2; have HB3 := hB.grown hg2 hB.size (fun k hk => by have := p5.ge k hk; omega); have hx3 := hx'.grownR hg2 (row_ne p5 (by omega)); have p63 := p6.grown hg2 (.inr hap.ab.symm); have p73 := p7.grown hg2 (.inr hap.ac.symm); have pk3 := pk.grown hg2 m5; have n65 := new_ne (B := 0) (c := 0) hb2 p6 hs.2.1 hap.ab.symm rfl; have n75 := new_ne (B := 0) (c := 0) hb2 p7 hs.2.2 hap.ac.symm rfl; have nk := new_ne (B := 0) (c := 0) hb2 pk (by simp) (m5.resolve_left (by simp)) rfl; have sn := some_of_blk hs.1 hb2; clear hg2 hb2)
        go_roundw
        case rel => exact ⟨k + 1, B2, d2, A6, c6, A7, c7, by omega, by go_num, by rw [HL.out, List.length_append]; rfl, by rw [HS.out], by rw [HM.out], ho2, by rw [HS.out]; exact p63, by rw [HM.out]; exact p73, ⟨sn, hs.2.1, hs.2.2⟩, ⟨n65.symm, n75.symm, hap.bc⟩, pk3, .inr nk, m6, m7, hx3, HB3⟩
        case measure => simp [intOf] <;> omega
      · by_cases hd : nth F x < nth F j
        · have HL := Lib.hid (less_no (F := F) hlt (by rw [HJT.out]; exact hc))
          have HS := Lib.hid (same_no (F := F) hlt (by rw [HJT.out]; omega))
          have HM := Lib.hid (more_yes (F := F) hlt (by rw [HJT.out]; exact hd))
          rw [HJ.out] at HM
          go_wp2_with (at_builtin; refine wp_append1 _ _ _ rfl _ _ rfl (w.heap.size + 1) A7 _ c7 (moreTo P F x k) rfl rfl p7 rfl (by omega) (by omega) ?_; rw [← HM.out]; intro B2 d2 w3 ho2 hg2 hb2; have HB3 := hB.grown hg2 hB.size (fun k hk => by have := p7.ge k hk; omega); have hx3 := hx'.grownR hg2 (row_ne p7 (by omega)); have p53 := p5.grown hg2 (.inr hap.ac); have p63 := p6.grown hg2 (.inr hap.bc); have pk3 := pk.grown hg2 m7; have n57 := new_ne (B := 0) (c := 0) hb2 p5 hs.1 hap.ac rfl; have n67 := new_ne (B := 0) (c := 0) hb2 p6 hs.2.1 hap.bc rfl; have nk := new_ne (B := 0) (c := 0) hb2 pk (by simp) (m7.resolve_left (by simp)) rfl; have sn := some_of_blk hs.2.2 hb2; clear hg2 hb2)
          go_roundw
          case rel => exact ⟨k + 1, A5, c5, A6, c6, B2, d2, by omega, by go_num, by rw [HL.out], by rw [HS.out], by rw [HM.out, List.length_append]; rfl, by rw [HL.out]; exact p53, by rw [HS.out]; exact p63, ho2, ⟨hs.1, hs.2.1, sn⟩, ⟨hap.ab, n57, n67⟩, pk3, m5, m6, .inr nk, hx3, HB3⟩
          case measure => simp [intOf] <;> omega
        · have HL := Lib.hid (less_no (F := F) hlt (by rw [HJT.out]; exact hc))
          have HS := Lib.hid (same_yes (F := F) hlt (by rw [HJT.out]; omega))
          have HM := Lib.hid (more_no (F := F) hlt (by rw [HJT.out]; exact hd))
          rw [HJ.out] at HS
          go_wp2_with (at_builtin; refine wp_append1 _ _ _ rfl _ _ rfl (w.heap.size + 1) A6 _ c6 (sameTo P F x k) rfl rfl p6 rfl (by omega) (by omega) ?_; rw [← HS.out]; intro B2 d2 w3 ho2 hg2 hb2; have HB3 := hB.grown hg2 hB.size (fun k hk => by have := p6.ge k hk; omega); have hx3 := hx'.grownR hg2 (row_ne p6 (by omega)); have p53 := p5.grown hg2 (.inr hap.ab); have p73 := p7.grown hg2 (.inr hap.bc.symm); have pk3 := pk.grown hg2 m6; have n56 := new_ne (B := 0) (c := 0) hb2 p5 hs.1 hap.ab rfl; have n76 := new_ne (B := 0) (c := 0) hb2 p7 hs.2.2 hap.bc.symm rfl; have nk := new_ne (B := 0) (c := 0) hb2 pk (by simp) (m6.resolve_left (by simp)) rfl; have sn := some_of_blk hs.2.1 hb2; clear hg2 hb2)
          go_roundw
          case rel => exact ⟨k + 1, A5, c5, B2, d2, A7, c7, by omega, by go_num, by rw [HL.out], by rw [HS.out, List.length_append]; rfl, by rw [HM.out], by rw [HL.out]; exact p53, ho2, by rw [HM.out]; exact p73, ⟨hs.1, sn, hs.2.2⟩, ⟨n56, hap.ac, n76.symm⟩, pk3, m5, .inr nk, m7, hx3, HB3⟩
          case measure => simp [intOf] <;> omega
    · have hkn : k = (kids P (x : Int)).length := by omega
      subst hkn
      go_wp2
      go_ret3
      exact ⟨A5, c5, A6, c6, A7, c7, rfl, p5.mono (by omega), p6.mono (by omega), p7.mono (by omega), hB⟩
end Go.Proofs.Ytnhclpajfejnoaa
