/- Trees: both walks (merged of TrW TrX TrY). -/
import Derived.Test.YtnhclpajfejnoaaTrB
import Derived.Test.YtnhclpajfejnoaaTreA
import Derived.Test.YtnhclpajfejnoaaMk
import Derived.Test.YtnhclpajfejnoaaScal
namespace Go.Proofs.Ytnhclpajfejnoaa
open Go.RowKit

theorem fillB {n k : Nat} (hk : k < n) : (List.replicate k true ++ List.replicate (n - k) false).set k true = List.replicate (k + 1) true ++ List.replicate (n - (k + 1)) false := by
  obtain ⟨r, hr⟩ : ∃ r, n - k = r + 1 := ⟨n - k - 1, by omega⟩
  have hr2 : n - (k + 1) = r := by omega
  rw [List.set_append_right _ _ (by simp), hr, hr2, List.length_replicate, Nat.sub_self, List.replicate_succ, List.set_cons_zero, List.replicate_succ' (n := k)]
  simp
set_option maxHeartbeats 1000000 in
theorem isEnd_c (A1 : Option Addr) (P : List Int) (c1 : Nat) (A2 : Option Addr) (n2 c2 : Nat) (w : World) (h1 : Rd w A1 (ints P)) (hp : ParOk P) (hn1 : 1 ≤ P.length) (hn : P.length ≤ 24) :
    Calls Try.prog 124 #[trV A1 P.length c1 A2 n2 c2] w fun e w' => ∃ g c, e = .returned (.slice (some ⟨g, 0, none⟩) P.length c) ∧ OwnB w' w.heap.size (some ⟨g, 0, none⟩) c (endsB P) ∧ Below w.heap.size w w' := by
  have HB1 : Below w.heap.size w (w.alloc (.cells #[.slice A1 P.length c1, .slice A2 n2 c2] 26)) := (Below.refl _ _).alloc (Nat.le_refl _) _
  have bx := Bx.new w (.slice A1 P.length c1) (.slice A2 n2 c2) 26
  go_enter Try.func124, Try.ntmps124
  go_wp2_with (at_make; refine wp_make_bools _ (w.heap.size + 1) (by simp) rfl _ _ rfl _ _ _ _ P.length rfl rfl rfl rfl (by omega) ?_; intro w1 ho1 hb1)
  have HB2 := bUp HB1 hb1 HB1.size
  have bx1 := bx.below hb1
  clear bx hb1 HB1
  go_loopw [13] (fun i wr => ∃ k : Nat, k ≤ P.length ∧ i = .int .i64 k ∧ OwnB wr (w.heap.size + 1) (some ⟨w.heap.size + 1, 0, none⟩) P.length (List.replicate k true ++ List.replicate (P.length - k) false) ∧
      Bx wr w.heap.size (.slice A1 P.length c1) (.slice A2 n2 c2) ∧ Below w.heap.size w wr) (fun i _ => P.length - (intOf i).toNat)
  case atStart => exact ⟨0, by omega, rfl, by simpa using ho1, bx1, HB2⟩
  case round =>
    obtain ⟨k, hk, rfl, ho, hx, hB⟩ := hrel
    clear ho1 bx1 HB2
    by_cases hlt : k < P.length
    · have hco := ho.cell (k := k) (by simp; omega)
      have hfo := ho.frozen k
      have hst := ho.set k true
      rw [fillB hlt] at hst
      go_wp2
      go_roundw
      case rel => exact ⟨k + 1, by omega, by go_num, hst.1, hx.grown hst.2 (by simp), hB.grown hst.2 hB.size (fun k hk => by cases hk; omega)⟩
      case measure => simp [intOf] <;> omega
    · have hkn : k = P.length := by omega
      subst hkn
      rw [Nat.sub_self, List.replicate_zero, List.append_nil, ← endsTo_zero] at ho
      obtain ⟨f0, f1, f2, f3, f4⟩ := hx
      go_wp2
      go_loopw [23] (fun i wr => ∃ k : Nat, k ≤ P.length ∧ i = .int .i64 k ∧ OwnB wr (w.heap.size + 1) (some ⟨w.heap.size + 1, 0, none⟩) P.length (endsTo P k) ∧ Below w.heap.size w wr) (fun i _ => P.length - (intOf i).toNat)
      case atStart => exact ⟨0, by omega, rfl, ho, hB⟩
      case round =>
        obtain ⟨k, hk, rfl, ho, hB⟩ := hrel
        clear f0 f1 f2 f3 f4
        by_cases hlt : k < P.length
        · obtain ⟨a, rfl, hca⟩ := (h1.below hB (Nat.le_refl _)).intN hlt
          by_cases hneg : nth P k < 0
          · have HE := Lib.hid (endsTo_neg hlt hneg)
            go_wp2
            go_roundw
            case rel => exact ⟨k + 1, by omega, by go_num, by rw [HE.out]; exact ho, hB⟩
            case measure => simp [intOf] <;> omega
          · obtain ⟨p, hpp⟩ : ∃ p : Nat, nth P k = (p : Int) := ⟨(nth P k).toNat, by omega⟩
            have hpl : p < P.length := by
              rcases Nat.eq_zero_or_pos k with h | h
              · subst h; have := hp.zero; omega
              · have := hp.up k h hlt; omega
            have HE := Lib.hid (endsTo_set hlt hpp)
            have hco := ho.cell (k := p) (by rw [endsTo_length]; exact hpl)
            have hfo := ho.frozen p
            have hst := ho.set p false
            rw [← HE.out] at hst
            rw [hpp] at hca hneg
            clear hpp
            go_wp2
            go_roundw
            case rel => exact ⟨k + 1, by omega, by go_num, hst.1, hB.grown hst.2 hB.size (fun k hk => by cases hk; omega)⟩
            case measure => simp [intOf] <;> omega
        · have hkn : k = P.length := by omega
          subst hkn
          rw [endsTo_all] at ho
          go_wp2
          go_ret
          exact ⟨_, _, rfl, ho.mono (by omega), hB⟩

theorem children_c (A1 : Option Addr) (P : List Int) (c1 : Nat) (A2 : Option Addr) (n2 c2 : Nat) (x : Int) (w : World) (h1 : Rd w A1 (ints P)) (hn : P.length ≤ 24) :
    Calls Try.prog 87 #[trV A1 P.length c1 A2 n2 c2, .int .i64 x] w (Row w (kids P x)) := by
  have HB1 : Below w.heap.size w ((w.alloc (.cells #[.slice A1 P.length c1, .slice A2 n2 c2] 26)).alloc (.cells #[] 3)) := ((Below.refl _ _).alloc (Nat.le_refl _) _).alloc (by simp) _
  have O0 := Own.lit0 (w.alloc (.cells #[.slice A1 P.length c1, .slice A2 n2 c2] 26)) (w.heap.size + 1) (by simp)
  go_enter Try.func87, Try.ntmps87
  go_wp2
  go_loopw [5, 12] (fun t i wr => ∃ k : Nat, ∃ A c, k ≤ P.length ∧ i = .int .i64 k ∧ t = .slice A (kidTo P x k).length c ∧ Own wr w.heap.size A c (kidTo P x k) ∧ Below w.heap.size w wr) (fun _ i _ => P.length - (intOf i).toNat)
  case atStart => exact ⟨0, _, _, by omega, rfl, rfl, O0.mono (by simp), HB1⟩
  case round =>
    obtain ⟨wo, rfl⟩ : ∃ wo : World, wo = wr := ⟨_, rfl⟩
    obtain ⟨k, A, c, hk, rfl, rfl, ho, hB⟩ := hrel
    clear HB1 O0
    by_cases hlt : k < P.length
    · obtain ⟨a, rfl, hca⟩ := (h1.below hB (Nat.le_refl _)).intN hlt
      have hlen := kidTo_len P x k
      by_cases he : nth P k = x
      · have HN := Lib.hid (kidTo_yes he)
        have e1 : (nth P k == x) = true := by simp [he]
        clear he
        go_wp2_with (at_builtin; refine wp_append1 _ _ _ rfl _ _ rfl w.heap.size A _ c (kidTo P x k) rfl rfl ho rfl (by omega) hB.size ?_; rw [← HN.out]; intro A2 c2 w2 ho2 hg2 hb2; have HB2 := hB.grown hg2 hB.size ho.ge; clear hg2 hb2)
        go_roundw
        case rel => exact ⟨k + 1, A2, c2, by omega, by go_num, by rw [HN.out, List.length_append]; rfl, ho2, HB2⟩
        case measure => simp [intOf] <;> omega
      · have HN := Lib.hid (kidTo_no he)
        have e1 : (nth P k == x) = false := by simp [he]
        clear he
        go_wp2
        go_roundw
        case rel => exact ⟨k + 1, A, c, by omega, by go_num, by rw [HN.out], by rw [HN.out]; exact ho, hB⟩
        case measure => simp [intOf] <;> omega
    · have hkn : k = P.length := by omega
      subst hkn
      go_wp2
      go_ret
      exact ⟨_, _, rfl, ho, hB⟩

set_option maxHeartbeats 1000000 in
theorem l2Kids_c (A1 : Option Addr) (P : List Int) (c1 : Nat) (A2 : Option Addr) (n2 c2 : Nat) (x : Nat) (w : World) (h1 : Rd w A1 (ints P)) (hp : ParOk P) (hx : x < P.length) (hn : P.length ≤ 24) :
    Calls Try.prog 111 #[trV A1 P.length c1 A2 n2 c2, .int .i64 (x : Int)] w (Row w (kids P (x : Int))) := by
  have HB1 : Below w.heap.size w ((w.alloc (.cells #[.slice A1 P.length c1, .slice A2 n2 c2] 26)).alloc (.cells #[] 3)) := ((Below.refl _ _).alloc (Nat.le_refl _) _).alloc (by simp) _
  have O0 := Own.lit0 (w.alloc (.cells #[.slice A1 P.length c1, .slice A2 n2 c2] 26)) (w.heap.size + 1) (by simp)
  have bx := (Bx.new w (.slice A1 P.length c1) (.slice A2 n2 c2) 26).alloc (.cells #[] 3)
  have hlow := kidTo_low hp (x := x) (k := x + 1) (by omega) (by omega)
  go_enter Try.func111, Try.ntmps111
  go_wp2
  go_loopw [5, 6] (fun t i wr => ∃ k : Nat, ∃ A c, k ≤ P.length ∧ i = .int .i64 k ∧ t = .slice A (kidTo P (x : Int) k).length c ∧ Own wr (w.heap.size + 1) A c (kidTo P (x : Int) k) ∧ Bx wr w.heap.size (.slice A1 P.length c1) (.slice A2 n2 c2) ∧ Below w.heap.size w wr) (fun _ i _ => P.length - (intOf i).toNat)
  case atStart => exact ⟨x + 1, some ⟨w.heap.size + 1, 0, none⟩, 0, by omega, by go_num, by rw [hlow]; simp, by rw [hlow]; exact O0, bx, HB1⟩
  case round =>
    obtain ⟨wo, rfl⟩ : ∃ wo : World, wo = wr := ⟨_, rfl⟩
    obtain ⟨k, A, c, hk, rfl, rfl, ho, hx, hB⟩ := hrel
    clear HB1 O0 bx hlow
    have hx' := hx
    obtain ⟨f0, f1, f2, f3, f4⟩ := hx
    by_cases hlt : k < P.length
    · obtain ⟨a, rfl, hca⟩ := (h1.below hB (Nat.le_refl _)).intN hlt
      have hlen := kidTo_len P x k
      by_cases he : nth P k = (x : Int)
      · have HN := Lib.hid (kidTo_yes he)
        have e1 : (nth P k == (x : Int)) = true := by simp [he]
        clear he
        go_wp2_with (at_builtin; refine wp_append1 _ _ _ rfl _ _ rfl (w.heap.size + 1) A _ c (kidTo P (x : Int) k) rfl rfl ho rfl (by omega) (by omega) ?_; rw [← HN.out]; intro A2 c2 w2 ho2 hg2 hb2; have HB2 := hB.grown hg2 hB.size (fun k hk => by have := ho.ge k hk; omega); have hx2 := hx'.grown hg2 (row_ne ho (by omega)); clear hg2 hb2)
        go_roundw
        case rel => exact ⟨k + 1, A2, c2, by omega, by go_num, by rw [HN.out, List.length_append]; rfl, ho2, hx2, HB2⟩
        case measure => simp [intOf] <;> omega
      · have HN := Lib.hid (kidTo_no he)
        have e1 : (nth P k == (x : Int)) = false := by simp [he]
        clear he
        go_wp2
        go_roundw
        case rel => exact ⟨k + 1, A, c, by omega, by go_num, by rw [HN.out], by rw [HN.out]; exact ho, hx', hB⟩
        case measure => simp [intOf] <;> omega
    · have hkn : k = P.length := by omega
      subst hkn
      go_wp2
      go_ret
      exact ⟨_, _, rfl, ho.mono (by omega), hB⟩

theorem endsB_nth {P : List Int} {x : Nat} (hx : x < P.length) : nthB (endsB P) x = endB P x := by simp [nthB, endsB, hx]
set_option maxHeartbeats 1000000 in
theorem ends_c (A1 : Option Addr) (P : List Int) (c1 : Nat) (A2 : Option Addr) (n2 c2 : Nat) (w : World) (h1 : Rd w A1 (ints P)) (hp : ParOk P) (hn1 : 1 ≤ P.length) (hn : P.length ≤ 24) :
    Calls Try.prog 85 #[trV A1 P.length c1 A2 n2 c2] w (Row w (endL P)) := by
  have HB1 : Below w.heap.size w ((w.alloc (.cells #[.slice A1 P.length c1, .slice A2 n2 c2] 26)).alloc (.cells #[] 3)) := ((Below.refl _ _).alloc (Nat.le_refl _) _).alloc (by simp) _
  have O0 := Own.lit0 (w.alloc (.cells #[.slice A1 P.length c1, .slice A2 n2 c2] 26)) (w.heap.size + 1) (by simp)
  go_enter Try.func85, Try.ntmps85
  go_wp2_with fail
  refine (isEnd_c A1 P c1 A2 n2 c2 _ (h1.below HB1 (Nat.le_refl _)) hp hn1 hn).mono ?_
  rintro e w2 ⟨g, cg, rfl, og, hb2⟩
  have HB2 := bUp HB1 hb2 HB1.size
  have O2 := O0.below hb2
  have hga : w.heap.size + 2 ≤ g := by have := (og.ltk g rfl).1; simpa using this
  clear HB1 O0 hb2
  go_wp2
  go_loopw [3, 10] (fun t i wr => ∃ k : Nat, ∃ A c, k ≤ P.length ∧ i = .int .i64 k ∧ t = .slice A (enTo P k).length c ∧ Own wr w.heap.size A c (enTo P k) ∧ OwnB wr w.heap.size (some ⟨g, 0, none⟩) cg (endsB P) ∧ blk A ≠ some g ∧ Below w.heap.size w wr) (fun _ i _ => P.length - (intOf i).toNat)
  case atStart => exact ⟨0, some ⟨w.heap.size + 1, 0, none⟩, 0, by omega, rfl, rfl, O2.mono (by omega), og.mono (by simp; omega), by simp [blk]; omega, HB2⟩
  case round =>
    obtain ⟨wo, rfl⟩ : ∃ wo : World, wo = wr := ⟨_, rfl⟩
    obtain ⟨k, A, c, hk, rfl, rfl, ho, hb, hne, hB⟩ := hrel
    clear HB2 O2 og
    by_cases hlt : k < P.length
    · have hco := hb.cell (k := k) (by rw [endsB_length]; exact hlt)
      rw [endsB_nth hlt] at hco
      have hlen := enTo_len P k
      cases he : endB P k
      · have HN := Lib.hid (enTo_no he)
        rw [he] at hco
        clear he
        go_wp2
        go_roundw
        case rel => exact ⟨k + 1, A, c, by omega, by go_num, by rw [HN.out], by rw [HN.out]; exact ho, hb, hne, hB⟩
        case measure => simp [intOf] <;> omega
      · have HN := Lib.hid (enTo_yes he)
        rw [he] at hco
        clear he
        have hgl := (hb.ltk g rfl).2
        go_wp2_with (at_builtin; refine wp_append1 _ _ _ rfl _ _ rfl w.heap.size A _ c (enTo P k) rfl rfl ho rfl (by omega) hB.size ?_; rw [← HN.out]; intro A2 c2 w2 ho2 hg2 hb2; have HB2 := hB.grown hg2 hB.size ho.ge; have hbb := hb.grown hg2 (.inr (by simp only [blk, Option.map_some] at hne ⊢; exact fun h => hne h.symm)))
        have hne2 : blk A2 ≠ some g := by
          rcases hb2 with h | ⟨g2, h, hg⟩
          · rw [h]; exact hne
          · rw [h]; intro h'; injection h' with h'; omega
        clear hg2 hb2
        go_roundw
        case rel => exact ⟨k + 1, A2, c2, by omega, by go_num, by rw [HN.out, List.length_append]; rfl, ho2, hbb, hne2, HB2⟩
        case measure => simp [intOf] <;> omega
    · have hkn : k = P.length := by omega
      subst hkn
      go_wp2
      go_ret
      exact ⟨_, _, rfl, ho, hB⟩

theorem kids_len0 {P : List Int} {x : Nat} {q : Bool} (h : endB P x = q) : (((kids P (x : Int)).length : Int) == 0) = q := by
  cases q
  · have : kids P (x : Int) ≠ [] := fun h' => by rw [(kids_nil x).1 h'] at h; cases h
    have := List.length_pos_iff.2 this
    simp; omega
  · rw [(kids_nil x).2 h]; rfl
set_option maxHeartbeats 1000000 in
theorem l2Ends_c (A1 : Option Addr) (P : List Int) (c1 : Nat) (A2 : Option Addr) (n2 c2 : Nat) (w : World) (h1 : Rd w A1 (ints P)) (hp : ParOk P) (hn : P.length ≤ 24) :
    Calls Try.prog 83 #[trV A1 P.length c1 A2 n2 c2] w (Row w (endL P)) := by
  have HB1 : Below w.heap.size w ((w.alloc (.cells #[.slice A1 P.length c1, .slice A2 n2 c2] 26)).alloc (.cells #[] 3)) := ((Below.refl _ _).alloc (Nat.le_refl _) _).alloc (by simp) _
  have O0 := Own.lit0 (w.alloc (.cells #[.slice A1 P.length c1, .slice A2 n2 c2] 26)) (w.heap.size + 1) (by simp)
  have bx := (Bx.new w (.slice A1 P.length c1) (.slice A2 n2 c2) 26).alloc (.cells #[] 3)
  go_enter Try.func83, Try.ntmps83
  go_wp2
  go_loopw [3, 4] (fun t i wr => ∃ k : Nat, ∃ A c, k ≤ P.length ∧ i = .int .i64 k ∧ t = .slice A (enTo P k).length c ∧ Own wr (w.heap.size + 1) A c (enTo P k) ∧ Bx wr w.heap.size (.slice A1 P.length c1) (.slice A2 n2 c2) ∧ Below w.heap.size w wr) (fun _ i _ => P.length - (intOf i).toNat)
  case atStart => exact ⟨0, some ⟨w.heap.size + 1, 0, none⟩, 0, by omega, rfl, rfl, O0, bx, HB1⟩
  case round =>
    obtain ⟨wo, rfl⟩ : ∃ wo : World, wo = wr := ⟨_, rfl⟩
    obtain ⟨k, A, c, hk, rfl, rfl, ho, hx, hB⟩ := hrel
    clear HB1 O0 bx
    have hx' := hx
    obtain ⟨f0, f1, f2, f3, f4⟩ := hx
    by_cases hlt : k < P.length
    · have hlen := enTo_len P k
      go_wp2_with fail
      refine (l2Kids_c A1 P c1 A2 n2 c2 k _ (h1.below hB (Nat.le_refl _)) hp hlt hn).mono ?_
      rintro e w2 ⟨Ak, ck, rfl, ok, hb2⟩
      have HB2 := bUp hB hb2 hB.size
      have o2 := ho.below hb2
      have hx2 := hx'.below hb2
      clear ok hb2 f0 f1 f2 f3 f4
      cases he : endB P k
      · have HN := Lib.hid (enTo_no he)
        have e1 := kids_len0 he
        clear he
        go_wp2
        go_roundw
        case rel => exact ⟨k + 1, A, c, by omega, by go_num, by rw [HN.out], by rw [HN.out]; exact o2, hx2, HB2⟩
        case measure => simp [intOf] <;> omega
      · have HN := Lib.hid (enTo_yes he)
        have e1 := kids_len0 he
        clear he
        go_wp2_with (at_builtin; refine wp_append1 _ _ _ rfl _ _ rfl (w.heap.size + 1) A _ c (enTo P k) rfl rfl o2 rfl (by omega) (by have := hx2.2.2.2.2; omega) ?_; rw [← HN.out]; intro A2 c2 w3 ho2 hg2 hb2; have HB3 := HB2.grown hg2 HB2.size (fun k hk => by have := o2.ge k hk; omega); have hx3 := hx2.grown hg2 (row_ne o2 (by omega)); clear hg2 hb2)
        go_roundw
        case rel => exact ⟨k + 1, A2, c2, by omega, by go_num, by rw [HN.out, List.length_append]; rfl, ho2, hx3, HB3⟩
        case measure => simp [intOf] <;> omega
    · have hkn : k = P.length := by omega
      subst hkn
      go_wp2
      go_ret
      exact ⟨_, _, rfl, ho.mono (by omega), hB⟩

theorem treeB_n {P W : List Int} (h : inB P.length 1 24 = false) : treeB P W = false := by simp [treeB, h]
theorem treeB_l {P W : List Int} (h : W.length ≠ P.length) : treeB P W = false := by simp [treeB, h]
/-- The first k parents are in order. -/
structure ParTo (P : List Int) (k : Nat) : Prop where
  zero : 0 < k → nth P 0 = -1
  up : ∀ x, 1 ≤ x → x < k → 0 ≤ nth P x ∧ nth P x ≤ (x : Int) - 1
theorem ParTo.end_ {P : List Int} {k : Nat} (h : ParTo P k) (h1 : 1 ≤ P.length) (hk : ¬ k < P.length) : ParOk P := ⟨h.zero (by omega), fun x hx hl => h.up x hx (by omega)⟩
theorem ParTo.next {P : List Int} {k : Nat} (h : ParTo P k) (h1 : 1 ≤ k) (hx : inB (nth P k) 0 ((k : Int) - 1) = true) : ParTo P (k + 1) := by
  have := inB_iff.1 hx
  refine ⟨fun _ => h.zero (by omega), fun x h1 hx => ?_⟩
  rcases Nat.lt_or_ge x k with h' | h'
  · exact h.up x h1 h'
  · rw [show x = k by omega]; omega
theorem par_no {P W : List Int} {k : Nat} (h1 : 1 ≤ k) (hk : k < P.length) (hx : inB (nth P k) 0 ((k : Int) - 1) = false) : treeB P W = false :=
  treeB_no fun h => by
    have := h.par.up k h1 hk
    rw [inB_iff.2 this] at hx
    cases hx
theorem par_no0 {P W : List Int} (h : nth P 0 ≠ -1) : treeB P W = false := treeB_no fun h' => h h'.par.zero
theorem wt_no1 {P W : List Int} {k : Nat} (hk : k < P.length) (he : endB P k = true) (hx : inB (nth W k) 1 20 = false) : treeB P W = false :=
  treeB_no fun h => by
    have := h.wt k hk
    rw [if_pos he] at this
    rw [inB_iff.2 this] at hx
    cases hx
theorem wt_no2 {P W : List Int} {k : Nat} (hk : k < P.length) (he : endB P k = false) (hx : nth W k ≠ 0) : treeB P W = false :=
  treeB_no fun h => by
    have := h.wt k hk
    rw [if_neg (by rw [he]; simp)] at this
    exact hx this
/-- The first k weights are right. -/
def WtTo (P W : List Int) (k : Nat) : Prop := ∀ x, x < k → if endB P x then 1 ≤ nth W x ∧ nth W x ≤ 20 else nth W x = 0
theorem WtTo.next1 {P W : List Int} {k : Nat} (h : WtTo P W k) (he : endB P k = true) (hx : inB (nth W k) 1 20 = true) : WtTo P W (k + 1) := by
  intro x hl
  rcases Nat.lt_or_ge x k with h' | h'
  · exact h x h'
  · rw [show x = k by omega, if_pos he]; exact inB_iff.1 hx
theorem WtTo.next2 {P W : List Int} {k : Nat} (h : WtTo P W k) (he : endB P k = false) (hx : nth W k = 0) : WtTo P W (k + 1) := by
  intro x hl
  rcases Nat.lt_or_ge x k with h' | h'
  · exact h x h'
  · rw [show x = k by omega, if_neg (by rw [he]; simp)]; exact hx
theorem tree_yes {P W : List Int} (h1 : inB P.length 1 24 = true) (h2 : W.length = P.length) (h3 : ParOk P) (h4 : WtTo P W P.length) : treeB P W = true := by
  have := inB_iff.1 h1
  exact treeB_iff.2 ⟨by omega, by omega, h2, h3, fun x hx => h4 x hx⟩

set_option maxHeartbeats 1000000 in
theorem isTree_c (A1 : Option Addr) (P : List Int) (c1 : Nat) (A2 : Option Addr) (W : List Int) (c2 : Nat) (w : World) (h1 : Rd w A1 (ints P)) (h2 : Rd w A2 (ints W)) (hl1 : P.length ≤ 16777216) (_hl2 : W.length ≤ 16777216) :
    Calls Try.prog 69 #[trV A1 P.length c1 A2 W.length c2] w (Quietly w (.bool (treeB P W))) := by
  have HB1 : Below w.heap.size w (w.alloc (.cells #[.slice A1 P.length c1, .slice A2 W.length c2] 26)) := (Below.refl _ _).alloc (Nat.le_refl _) _
  cases hn : inB P.length 1 24
  · rw [treeB_n hn]
    go_enter Try.func69, Try.ntmps69
    go_wp2_with fail
    refine (within_is _ _ _ _ hn _).mono ?_
    rintro e w' ⟨rfl, rfl⟩
    go_wp2
    go_ret
    exact ⟨rfl, HB1⟩
  · have hnb := inB_iff.1 hn
    by_cases hw : W.length = P.length
    · have e1 : ((W.length : Int) != (P.length : Int)) = false := by simp [hw]
      have HW := Lib.hid hw
      obtain ⟨a0, hA1, hc0⟩ := (h1.below HB1 (Nat.le_refl _)).intN (k := 0) (by omega)
      rw [add_nil] at hc0
      by_cases hz : nth P 0 = -1
      · have e2 : (nth P 0 != (-1 : Int)) = false := by simp [hz]
        have HZ := Lib.hid hz
        rw [hz] at hc0
        clear hz hw
        subst hA1
        have bx := Bx.new w (.slice (some a0) P.length c1) (.slice A2 W.length c2) 26
        go_enter Try.func69, Try.ntmps69
        go_wp2_with fail
        refine (within_is _ _ _ _ hn _).mono ?_
        rintro e w' ⟨rfl, rfl⟩
        go_upto_region 4 with fail
        generalize w.alloc (.cells #[.slice (some a0) P.length c1, .slice A2 W.length c2] 26) = v at *
        obtain ⟨f0, f1, f2, f3, f4⟩ := bx
        have h1v := h1.below HB1 (Nat.le_refl _)
        have h2v := h2.below HB1 (Nat.le_refl _)
        go_wp2
        go_loop [4] (fun i => ∃ k : Nat, 1 ≤ k ∧ k ≤ P.length ∧ i = .int .i64 k ∧ ParTo P k) (fun i => P.length - (intOf i).toNat)
        case atStart => exact ⟨1, by omega, by omega, rfl, fun _ => HZ.out, fun x hx hx1 => by omega⟩
        case round =>
          obtain ⟨k, hk1, hk, rfl, hpt⟩ := hrel
          have HP := Lib.hid hpt
          clear hpt
          by_cases hlt : k < P.length
          · obtain ⟨a, he, hca⟩ := h1v.intN hlt
            obtain rfl : a0 = a := by injection he
            clear he
            cases hx : inB (nth P k) 0 ((k : Int) - 1)
            · have HN := Lib.hid (par_no (W := W) hk1 hlt hx)
              go_wp2_with fail
              refine (within_is _ _ _ _ hx _).mono ?_
              rintro e w' ⟨rfl, rfl⟩
              go_wp2
              go_ret
              exact ⟨by rw [HN.out] <;> rfl, HB1⟩
            · have HN := Lib.hid (HP.out.next hk1 hx)
              go_wp2_with fail
              refine (within_is _ _ _ _ hx _).mono ?_
              rintro e w' ⟨rfl, rfl⟩
              go_wp2
              go_round
              case rel => exact ⟨k + 1, by omega, by omega, by go_num, HN.out⟩
              case measure => simp [intOf] <;> omega
          · have hpo := HP.out.end_ (by omega) hlt
            have HPO := Lib.hid hpo
            have hkn : k = P.length := by omega
            subst hkn
            have bx2 : Bx v w.heap.size (.slice (some a0) P.length c1) (.slice A2 W.length c2) := ⟨f0, f1, f2, f3, f4⟩
            go_wp2_with fail
            refine (isEnd_c (some a0) P c1 A2 W.length c2 _ h1v hpo (by omega) (by omega)).mono ?_
            rintro e w2 ⟨g, cg, rfl, og, hb2⟩
            have HB2 := bUp HB1 hb2 HB1.size
            have h2w := h2.below HB2 (Nat.le_refl _)
            obtain ⟨g0, g1, g2, g3, g4⟩ := bx2.below hb2
            clear hpo h1v h2v bx2 hb2 f0 f1 f2 f3 f4
            go_wp2
            go_loop [44] (fun i => ∃ k : Nat, k ≤ P.length ∧ i = .int .i64 k ∧ WtTo P W k) (fun i => P.length - (intOf i).toNat)
            case atStart => exact ⟨0, by omega, rfl, fun x hx => by omega⟩
            case round =>
              obtain ⟨k, hk, rfl, hwt⟩ := hrel
              have HT := Lib.hid hwt
              clear hwt
              by_cases hlt : k < P.length
              · have hco := og.cell (k := k) (by rw [endsB_length]; exact hlt)
                rw [endsB_nth hlt] at hco
                obtain ⟨b, rfl, hcb⟩ := h2w.intN (k := k) (by have := HW.out; omega)
                have hkw : (k : Int) < (W.length : Int) := by have := HW.out; omega
                cases he : endB P k
                · rw [he] at hco
                  by_cases hx : nth W k = 0
                  · have HN := Lib.hid (HT.out.next2 he hx)
                    have e3 : (nth W k != 0) = false := by simp [hx]
                    clear he hx
                    go_wp2
                    go_round
                    case rel => exact ⟨k + 1, by omega, by go_num, HN.out⟩
                    case measure => simp [intOf] <;> omega
                  · have HN := Lib.hid (wt_no2 hlt he hx)
                    have e3 : (nth W k != 0) = true := by simp [hx]
                    clear he hx
                    go_wp2
                    go_ret
                    exact ⟨by rw [HN.out] <;> rfl, HB2⟩
                · rw [he] at hco
                  cases hx : inB (nth W k) 1 20
                  · have HN := Lib.hid (wt_no1 hlt he hx)
                    clear he
                    go_wp2_with fail
                    refine (within_is _ _ _ _ hx _).mono ?_
                    rintro e w' ⟨rfl, rfl⟩
                    go_wp2
                    go_ret
                    exact ⟨by rw [HN.out] <;> rfl, HB2⟩
                  · have HN := Lib.hid (HT.out.next1 he hx)
                    clear he
                    go_wp2_with fail
                    refine (within_is _ _ _ _ hx _).mono ?_
                    rintro e w' ⟨rfl, rfl⟩
                    go_wp2
                    go_round
                    case rel => exact ⟨k + 1, by omega, by go_num, HN.out⟩
                    case measure => simp [intOf] <;> omega
              · have hkn : k = P.length := by omega
                subst hkn
                have HN := Lib.hid (tree_yes hn HW.out HPO.out HT.out)
                go_wp2
                go_ret
                exact ⟨by rw [HN.out] <;> rfl, HB2⟩
      · have e2 : (nth P 0 != (-1 : Int)) = true := by simp [hz]
        rw [par_no0 hz]
        clear hz hw
        subst hA1
        go_enter Try.func69, Try.ntmps69
        go_wp2_with fail
        refine (within_is _ _ _ _ hn _).mono ?_
        rintro e w' ⟨rfl, rfl⟩
        go_wp2
        go_ret
        exact ⟨rfl, HB1⟩
    · have e1 : ((W.length : Int) != (P.length : Int)) = true := by simp; omega
      rw [treeB_l hw]
      clear hw
      go_enter Try.func69, Try.ntmps69
      go_wp2_with fail
      refine (within_is _ _ _ _ hn _).mono ?_
      rintro e w' ⟨rfl, rfl⟩
      go_wp2
      go_ret
      exact ⟨rfl, HB1⟩

set_option maxHeartbeats 1000000 in
theorem l2Good_c (A1 : Option Addr) (P : List Int) (c1 : Nat) (A2 : Option Addr) (W : List Int) (c2 : Nat) (w : World) (h1 : Rd w A1 (ints P)) (h2 : Rd w A2 (ints W)) (hl1 : P.length ≤ 16777216) (_hl2 : W.length ≤ 16777216) :
    Calls Try.prog 84 #[trV A1 P.length c1 A2 W.length c2] w (Quietly w (.bool (treeB P W))) := by
  have HB1 : Below w.heap.size w (w.alloc (.cells #[.slice A1 P.length c1, .slice A2 W.length c2] 26)) := (Below.refl _ _).alloc (Nat.le_refl _) _
  cases hn : inB P.length 1 24
  · rw [treeB_n hn]
    go_enter Try.func84, Try.ntmps84
    go_wp2_with fail
    refine (l1In_is _ _ _ _ hn _).mono ?_
    rintro e w' ⟨rfl, rfl⟩
    go_wp2
    go_ret
    exact ⟨rfl, HB1⟩
  · have hnb := inB_iff.1 hn
    by_cases hw : W.length = P.length
    · have e1 : ((W.length : Int) != (P.length : Int)) = false := by simp [hw]
      have HW := Lib.hid hw
      have bx := Bx.new w (.slice A1 P.length c1) (.slice A2 W.length c2) 26
      clear hw
      go_enter Try.func84, Try.ntmps84
      go_wp2_with fail
      refine (l1In_is _ _ _ _ hn _).mono ?_
      rintro e w' ⟨rfl, rfl⟩
      go_upto_region 4 with fail
      generalize w.alloc (.cells #[.slice A1 P.length c1, .slice A2 W.length c2] 26) = v at *
      obtain ⟨f0, f1, f2, f3, f4⟩ := bx
      have h1v := h1.below HB1 (Nat.le_refl _)
      have h2v := h2.below HB1 (Nat.le_refl _)
      go_wp2
      go_loop [4] (fun i => ∃ k : Nat, k ≤ P.length ∧ i = .int .i64 k ∧ ParTo P k) (fun i => P.length - (intOf i).toNat)
      case atStart => exact ⟨0, by omega, rfl, fun h => by omega, fun x hx hx1 => by omega⟩
      case round =>
        obtain ⟨k, hk, rfl, hpt⟩ := hrel
        have HP := Lib.hid hpt
        clear hpt
        by_cases hlt : k < P.length
        · obtain ⟨a, rfl, hca⟩ := h1v.intN hlt
          rcases Nat.eq_zero_or_pos k with hk0 | hk0
          · subst hk0
            rw [add_nil] at hca
            by_cases hz : nth P 0 = -1
            · have HN : Hid (ParTo P 1) := Lib.hid ⟨fun _ => hz, fun x hx hx1 => by omega⟩
              have e2 : (nth P 0 != (-1 : Int)) = false := by simp [hz]
              clear hz
              go_wp2
              go_round
              case rel => exact ⟨1, by omega, by go_num, HN.out⟩
              case measure => simp [intOf] <;> omega
            · have HN := Lib.hid (par_no0 (W := W) hz)
              have e2 : (nth P 0 != (-1 : Int)) = true := by simp [hz]
              clear hz
              go_wp2
              go_ret
              exact ⟨by rw [HN.out] <;> rfl, HB1⟩
          · have e2 : ((k : Int) == 0) = false := by simp; omega
            cases hx : inB (nth P k) 0 ((k : Int) - 1)
            · have HN := Lib.hid (par_no (W := W) hk0 hlt hx)
              go_wp2_with fail
              refine (l1In_is _ _ _ _ hx _).mono ?_
              rintro e w' ⟨rfl, rfl⟩
              go_wp2
              go_ret
              exact ⟨by rw [HN.out] <;> rfl, HB1⟩
            · have HN := Lib.hid (HP.out.next hk0 hx)
              go_wp2_with fail
              refine (l1In_is _ _ _ _ hx _).mono ?_
              rintro e w' ⟨rfl, rfl⟩
              go_wp2
              go_round
              case rel => exact ⟨k + 1, by omega, by go_num, HN.out⟩
              case measure => simp [intOf] <;> omega
        · have HPO := Lib.hid (HP.out.end_ (by omega) hlt)
          have hkn : k = P.length := by omega
          subst hkn
          have bx2 : Bx v w.heap.size (.slice A1 P.length c1) (.slice A2 W.length c2) := ⟨f0, f1, f2, f3, f4⟩
          clear f0 f1 f2 f3 f4 h1v h2v
          go_wp2
          go_loopw [5] (fun i wr => ∃ k : Nat, k ≤ P.length ∧ i = .int .i64 k ∧ WtTo P W k ∧ Bx wr w.heap.size (.slice A1 P.length c1) (.slice A2 W.length c2) ∧ Below w.heap.size w wr) (fun i _ => P.length - (intOf i).toNat)
          case atStart => exact ⟨0, by omega, rfl, fun x hx => by omega, bx2, HB1⟩
          case round =>
            obtain ⟨k, hk, rfl, hwt, hxx, hB⟩ := hrel
            clear bx2
            have HT := Lib.hid hwt
            clear hwt
            have hx' := hxx
            obtain ⟨f0, f1, f2, f3, f4⟩ := hxx
            by_cases hlt : k < P.length
            · go_wp2_with fail
              refine (l2Kids_c A1 P c1 A2 W.length c2 k _ (h1.below hB (Nat.le_refl _)) HPO.out hlt (by omega)).mono ?_
              rintro e w2 ⟨Ak, ck, rfl, ok, hb2⟩
              have HB2 := bUp hB hb2 hB.size
              have hx2 := hx'.below hb2
              have h2w := h2.below HB2 (Nat.le_refl _)
              clear ok hb2 f0 f1 f2 f3 f4
              have hx2' := hx2
              obtain ⟨f0, f1, f2, f3, f4⟩ := hx2
              obtain ⟨b, rfl, hcb⟩ := h2w.intN (k := k) (by have := HW.out; omega)
              have hkw : (k : Int) < (W.length : Int) := by have := HW.out; omega
              cases he : endB P k
              · have e4 := kids_len0 he
                by_cases hx : nth W k = 0
                · have HN := Lib.hid (HT.out.next2 he hx)
                  have e3 : (nth W k != 0) = false := by simp [hx]
                  clear he hx
                  go_wp2
                  go_roundw
                  case rel => exact ⟨k + 1, by omega, by go_num, HN.out, hx2', HB2⟩
                  case measure => simp [intOf] <;> omega
                · have HN := Lib.hid (wt_no2 hlt he hx)
                  have e3 : (nth W k != 0) = true := by simp [hx]
                  clear he hx
                  go_wp2
                  go_ret
                  exact ⟨by rw [HN.out] <;> rfl, HB2⟩
              · have e4 := kids_len0 he
                cases hx : inB (nth W k) 1 20
                · have HN := Lib.hid (wt_no1 hlt he hx)
                  clear he
                  go_wp2_with fail
                  refine (l1In_is _ _ _ _ hx _).mono ?_
                  rintro e w' ⟨rfl, rfl⟩
                  go_wp2
                  go_ret
                  exact ⟨by rw [HN.out] <;> rfl, HB2⟩
                · have HN := Lib.hid (HT.out.next1 he hx)
                  clear he
                  go_wp2_with fail
                  refine (l1In_is _ _ _ _ hx _).mono ?_
                  rintro e w' ⟨rfl, rfl⟩
                  go_wp2
                  go_roundw
                  case rel => exact ⟨k + 1, by omega, by go_num, HN.out, hx2', HB2⟩
                  case measure => simp [intOf] <;> omega
            · have hkn : k = P.length := by omega
              subst hkn
              have HN := Lib.hid (tree_yes hn HW.out HPO.out HT.out)
              go_wp2
              go_ret
              exact ⟨by rw [HN.out] <;> rfl, hB⟩
    · have e1 : ((W.length : Int) != (P.length : Int)) = true := by simp; omega
      rw [treeB_l hw]
      clear hw
      go_enter Try.func84, Try.ntmps84
      go_wp2_with fail
      refine (l1In_is _ _ _ _ hn _).mono ?_
      rintro e w' ⟨rfl, rfl⟩
      go_wp2
      go_ret
      exact ⟨rfl, HB1⟩
theorem isTree_is (A1 : Option Addr) (P : List Int) (c1 : Nat) (A2 : Option Addr) (W : List Int) (c2 : Nat) (q : Bool) (h : treeB P W = q) (w : World) (h1 : Rd w A1 (ints P)) (h2 : Rd w A2 (ints W)) (hl1 : P.length ≤ 16777216) (hl2 : W.length ≤ 16777216) :
    Calls Try.prog 69 #[trV A1 P.length c1 A2 W.length c2] w (Quietly w (.bool q)) := by
  rw [← h]
  exact isTree_c A1 P c1 A2 W c2 w h1 h2 hl1 hl2
theorem l2Good_is (A1 : Option Addr) (P : List Int) (c1 : Nat) (A2 : Option Addr) (W : List Int) (c2 : Nat) (q : Bool) (h : treeB P W = q) (w : World) (h1 : Rd w A1 (ints P)) (h2 : Rd w A2 (ints W)) (hl1 : P.length ≤ 16777216) (hl2 : W.length ≤ 16777216) :
    Calls Try.prog 84 #[trV A1 P.length c1 A2 W.length c2] w (Quietly w (.bool q)) := by
  rw [← h]
  exact l2Good_c A1 P c1 A2 W c2 w h1 h2 hl1 hl2

end Go.Proofs.Ytnhclpajfejnoaa
