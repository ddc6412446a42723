/- Trees: their ends, and whether they are valid: both packages' walks. -/
import Derived.Test.YtnhclpajfejnoaaTrW
namespace Go.Proofs.Ytnhclpajfejnoaa
open Go.RowKit

theorem endsB_nth {P : List Int} {x : Nat} (hx : x < P.length) : nthB (endsB P) x = endB P x := by simp [nthB, endsB, hx]
set_option maxHeartbeats 1000000 in
theorem ends_c (A1 : Option Addr) (P : List Int) (c1 : Nat) (A2 : Option Addr) (n2 c2 : Nat) (w : World) (h1 : Rd w A1 (ints P)) (hp : ParOk P) (hn1 : 1 ≤ P.length) (hn : P.length ≤ 24) :
    Calls Try.prog 85 #[trV A1 P.length c1 A2 n2 c2] w (Row w (endL P)) := by
  have HB1 : Below w.heap.size w ((w.alloc (.cells #[.slice A1 P.length c1, .slice A2 n2 c2] 26)).alloc (.cells #[] 3)) := ((Below.refl _ _).alloc (Nat.le_refl _) _).alloc (by simp) _
  have O0 := Own.lit0 (w.alloc (.cells #[.slice A1 P.length c1, .slice A2 n2 c2] 26)) (w.heap.size + 1) (by simp)
  go_enter Try.func85, Try.ntmps85
  go_wp2_with fail
  refine (isEnd_c A1 P c1 A2 n2 c2 _ (h1.below HB1 (Nat.le_refl _)) hp hn1 hn).mono ?_
  rintro e w2 ⟨g, cg, rfl, og, hb2⟩
  have HB2 := bUp HB1 hb2 HB1.size
  have O2 := O0.below hb2
  have hga : w.heap.size + 2 ≤ g := by have := (og.ltk g rfl).1; simpa using this
  clear HB1 O0 hb2
  go_wp2
  go_loopw [3, 10] (fun t i wr => ∃ k : Nat, ∃ A c, k ≤ P.length ∧ i = .int .i64 k ∧ t = .slice A (enTo P k).length c ∧ Own wr w.heap.size A c (enTo P k) ∧ OwnB wr w.heap.size (some ⟨g, 0, none⟩) cg (endsB P) ∧ blk A ≠ some g ∧ Below w.heap.size w wr) (fun _ i _ => P.length - (intOf i).toNat)
  case atStart => exact ⟨0, some ⟨w.heap.size + 1, 0, none⟩, 0, by omega, rfl, rfl, O2.mono (by omega), og.mono (by simp; omega), by simp [blk]; omega, HB2⟩
  case round =>
    obtain ⟨wo, rfl⟩ : ∃ wo : World, wo = wr := ⟨_, rfl⟩
    obtain ⟨k, A, c, hk, rfl, rfl, ho, hb, hne, hB⟩ := hrel
    clear HB2 O2 og
    by_cases hlt : k < P.length
    · have hco := hb.cell (k := k) (by rw [endsB_length]; exact hlt)
      rw [endsB_nth hlt] at hco
      have hlen := enTo_len P k
      cases he : endB P k
      · have HN := Lib.hid (enTo_no he)
        rw [he] at hco
        clear he
        go_wp2
        go_roundw
        case rel => exact ⟨k + 1, A, c, by omega, by go_num, by rw [HN.out], by rw [HN.out]; exact ho, hb, hne, hB⟩
        case measure => simp [intOf] <;> omega
      · have HN := Lib.hid (enTo_yes he)
        rw [he] at hco
        clear he
        have hgl := (hb.ltk g rfl).2
        go_wp2_with (at_builtin; refine wp_append1 _ _ _ rfl _ _ rfl w.heap.size A _ c (enTo P k) rfl rfl ho rfl (by omega) hB.size ?_; rw [← HN.out]; intro A2 c2 w2 ho2 hg2 hb2; have HB2 := hB.grown hg2 hB.size ho.ge; have hbb := hb.grown hg2 (.inr (by simp only [blk, Option.map_some] at hne ⊢; exact fun h => hne h.symm)))
        have hne2 : blk A2 ≠ some g := by
          rcases hb2 with h | ⟨g2, h, hg⟩
          · rw [h]; exact hne
          · rw [h]; intro h'; injection h' with h'; omega
        clear hg2 hb2
        go_roundw
        case rel => exact ⟨k + 1, A2, c2, by omega, by go_num, by rw [HN.out, List.length_append]; rfl, ho2, hbb, hne2, HB2⟩
        case measure => simp [intOf] <;> omega
    · have hkn : k = P.length := by omega
      subst hkn
      go_wp2
      go_ret
      exact ⟨_, _, rfl, ho, hB⟩

theorem kids_len0 {P : List Int} {x : Nat} {q : Bool} (h : endB P x = q) : (((kids P (x : Int)).length : Int) == 0) = q := by
  cases q
  · have : kids P (x : Int) ≠ [] := fun h' => by rw [(kids_nil x).1 h'] at h; cases h
    have := List.length_pos_iff.2 this
    simp; omega
  · rw [(kids_nil x).2 h]; rfl
set_option maxHeartbeats 1000000 in
theorem l2Ends_c (A1 : Option Addr) (P : List Int) (c1 : Nat) (A2 : Option Addr) (n2 c2 : Nat) (w : World) (h1 : Rd w A1 (ints P)) (hp : ParOk P) (hn : P.length ≤ 24) :
    Calls Try.prog 83 #[trV A1 P.length c1 A2 n2 c2] w (Row w (endL P)) := by
  have HB1 : Below w.heap.size w ((w.alloc (.cells #[.slice A1 P.length c1, .slice A2 n2 c2] 26)).alloc (.cells #[] 3)) := ((Below.refl _ _).alloc (Nat.le_refl _) _).alloc (by simp) _
  have O0 := Own.lit0 (w.alloc (.cells #[.slice A1 P.length c1, .slice A2 n2 c2] 26)) (w.heap.size + 1) (by simp)
  have bx := (Bx.new w (.slice A1 P.length c1) (.slice A2 n2 c2) 26).alloc (.cells #[] 3)
  go_enter Try.func83, Try.ntmps83
  go_wp2
  go_loopw [3, 4] (fun t i wr => ∃ k : Nat, ∃ A c, k ≤ P.length ∧ i = .int .i64 k ∧ t = .slice A (enTo P k).length c ∧ Own wr (w.heap.size + 1) A c (enTo P k) ∧ Bx wr w.heap.size (.slice A1 P.length c1) (.slice A2 n2 c2) ∧ Below w.heap.size w wr) (fun _ i _ => P.length - (intOf i).toNat)
  case atStart => exact ⟨0, some ⟨w.heap.size + 1, 0, none⟩, 0, by omega, rfl, rfl, O0, bx, HB1⟩
  case round =>
    obtain ⟨wo, rfl⟩ : ∃ wo : World, wo = wr := ⟨_, rfl⟩
    obtain ⟨k, A, c, hk, rfl, rfl, ho, hx, hB⟩ := hrel
    clear HB1 O0 bx
    have hx' := hx
    obtain ⟨f0, f1, f2, f3, f4⟩ := hx
    by_cases hlt : k < P.length
    · have hlen := enTo_len P k
      go_wp2_with fail
      refine (l2Kids_c A1 P c1 A2 n2 c2 k _ (h1.below hB (Nat.le_refl _)) hp hlt hn).mono ?_
      rintro e w2 ⟨Ak, ck, rfl, ok, hb2⟩
      have HB2 := bUp hB hb2 hB.size
      have o2 := ho.below hb2
      have hx2 := hx'.below hb2
      clear ok hb2 f0 f1 f2 f3 f4
      cases he : endB P k
      · have HN := Lib.hid (enTo_no he)
        have e1 := kids_len0 he
        clear he
        go_wp2
        go_roundw
        case rel => exact ⟨k + 1, A, c, by omega, by go_num, by rw [HN.out], by rw [HN.out]; exact o2, hx2, HB2⟩
        case measure => simp [intOf] <;> omega
      · have HN := Lib.hid (enTo_yes he)
        have e1 := kids_len0 he
        clear he
        go_wp2_with (at_builtin; refine wp_append1 _ _ _ rfl _ _ rfl (w.heap.size + 1) A _ c (enTo P k) rfl rfl o2 rfl (by omega) (by have := hx2.2.2.2.2; omega) ?_; rw [← HN.out]; intro A2 c2 w3 ho2 hg2 hb2; have HB3 := HB2.grown hg2 HB2.size (fun k hk => by have := o2.ge k hk; omega); have hx3 := hx2.grown hg2 (row_ne o2 (by omega)); clear hg2 hb2)
        go_roundw
        case rel => exact ⟨k + 1, A2, c2, by omega, by go_num, by rw [HN.out, List.length_append]; rfl, ho2, hx3, HB3⟩
        case measure => simp [intOf] <;> omega
    · have hkn : k = P.length := by omega
      subst hkn
      go_wp2
      go_ret
      exact ⟨_, _, rfl, ho.mono (by omega), hB⟩

theorem treeB_n {P W : List Int} (h : inB P.length 1 24 = false) : treeB P W = false := by simp [treeB, h]
theorem treeB_l {P W : List Int} (h : W.length ≠ P.length) : treeB P W = false := by simp [treeB, h]
/-- The first k parents are in order. -/
structure ParTo (P : List Int) (k : Nat) : Prop where
  zero : 0 < k → nth P 0 = -1
  up : ∀ x, 1 ≤ x → x < k → 0 ≤ nth P x ∧ nth P x ≤ (x : Int) - 1
theorem ParTo.end_ {P : List Int} {k : Nat} (h : ParTo P k) (h1 : 1 ≤ P.length) (hk : ¬ k < P.length) : ParOk P := ⟨h.zero (by omega), fun x hx hl => h.up x hx (by omega)⟩
theorem ParTo.next {P : List Int} {k : Nat} (h : ParTo P k) (h1 : 1 ≤ k) (hx : inB (nth P k) 0 ((k : Int) - 1) = true) : ParTo P (k + 1) := by
  have := inB_iff.1 hx
  refine ⟨fun _ => h.zero (by omega), fun x h1 hx => ?_⟩
  rcases Nat.lt_or_ge x k with h' | h'
  · exact h.up x h1 h'
  · rw [show x = k by omega]; omega
theorem par_no {P W : List Int} {k : Nat} (h1 : 1 ≤ k) (hk : k < P.length) (hx : inB (nth P k) 0 ((k : Int) - 1) = false) : treeB P W = false :=
  treeB_no fun h => by
    have := h.par.up k h1 hk
    rw [inB_iff.2 this] at hx
    cases hx
theorem par_no0 {P W : List Int} (h : nth P 0 ≠ -1) : treeB P W = false := treeB_no fun h' => h h'.par.zero
theorem wt_no1 {P W : List Int} {k : Nat} (hk : k < P.length) (he : endB P k = true) (hx : inB (nth W k) 1 20 = false) : treeB P W = false :=
  treeB_no fun h => by
    have := h.wt k hk
    rw [if_pos he] at this
    rw [inB_iff.2 this] at hx
    cases hx
theorem wt_no2 {P W : List Int} {k : Nat} (hk : k < P.length) (he : endB P k = false) (hx : nth W k ≠ 0) : treeB P W = false :=
  treeB_no fun h => by
    have := h.wt k hk
    rw [if_neg (by rw [he]; simp)] at this
    exact hx this
/-- The first k weights are right. -/
def WtTo (P W : List Int) (k : Nat) : Prop := ∀ x, x < k → if endB P x then 1 ≤ nth W x ∧ nth W x ≤ 20 else nth W x = 0
theorem WtTo.next1 {P W : List Int} {k : Nat} (h : WtTo P W k) (he : endB P k = true) (hx : inB (nth W k) 1 20 = true) : WtTo P W (k + 1) := by
  intro x hl
  rcases Nat.lt_or_ge x k with h' | h'
  · exact h x h'
  · rw [show x = k by omega, if_pos he]; exact inB_iff.1 hx
theorem WtTo.next2 {P W : List Int} {k : Nat} (h : WtTo P W k) (he : endB P k = false) (hx : nth W k = 0) : WtTo P W (k + 1) := by
  intro x hl
  rcases Nat.lt_or_ge x k with h' | h'
  · exact h x h'
  · rw [show x = k by omega, if_neg (by rw [he]; simp)]; exact hx
theorem tree_yes {P W : List Int} (h1 : inB P.length 1 24 = true) (h2 : W.length = P.length) (h3 : ParOk P) (h4 : WtTo P W P.length) : treeB P W = true := by
  have := inB_iff.1 h1
  exact treeB_iff.2 ⟨by omega, by omega, h2, h3, fun x hx => h4 x hx⟩
end Go.Proofs.Ytnhclpajfejnoaa
