/- Trees: which nodes are ends, the children of a node: both packages' walks. -/
import Derived.Test.YtnhclpajfejnoaaTrB
import Derived.Test.YtnhclpajfejnoaaTreA
import Derived.Test.YtnhclpajfejnoaaMk
import Derived.Test.YtnhclpajfejnoaaScal
namespace Go.Proofs.Ytnhclpajfejnoaa
open Go.RowKit

theorem fillB {n k : Nat} (hk : k < n) : (List.replicate k true ++ List.replicate (n - k) false).set k true = List.replicate (k + 1) true ++ List.replicate (n - (k + 1)) false := by
  obtain ⟨r, hr⟩ : ∃ r, n - k = r + 1 := ⟨n - k - 1, by omega⟩
  have hr2 : n - (k + 1) = r := by omega
  rw [List.set_append_right _ _ (by simp), hr, hr2, List.length_replicate, Nat.sub_self, List.replicate_succ, List.set_cons_zero, List.replicate_succ' (n := k)]
  simp
set_option maxHeartbeats 1000000 in
theorem isEnd_c (A1 : Option Addr) (P : List Int) (c1 : Nat) (A2 : Option Addr) (n2 c2 : Nat) (w : World) (h1 : Rd w A1 (ints P)) (hp : ParOk P) (hn1 : 1 ≤ P.length) (hn : P.length ≤ 24) :
    Calls Try.prog 124 #[trV A1 P.length c1 A2 n2 c2] w fun e w' => ∃ g c, e = .returned (.slice (some ⟨g, 0, none⟩) P.length c) ∧ OwnB w' w.heap.size (some ⟨g, 0, none⟩) c (endsB P) ∧ Below w.heap.size w w' := by
  have HB1 : Below w.heap.size w (w.alloc (.cells #[.slice A1 P.length c1, .slice A2 n2 c2] 26)) := (Below.refl _ _).alloc (Nat.le_refl _) _
  have bx := Bx.new w (.slice A1 P.length c1) (.slice A2 n2 c2) 26
  go_enter Try.func124, Try.ntmps124
  go_wp2_with (at_make; refine wp_make_bools _ (w.heap.size + 1) (by simp) rfl _ _ rfl _ _ _ _ P.length rfl rfl rfl rfl (by omega) ?_; intro w1 ho1 hb1)
  have HB2 := bUp HB1 hb1 HB1.size
  have bx1 := bx.below hb1
  clear bx hb1 HB1
  go_loopw [13] (fun i wr => ∃ k : Nat, k ≤ P.length ∧ i = .int .i64 k ∧ OwnB wr (w.heap.size + 1) (some ⟨w.heap.size + 1, 0, none⟩) P.length (List.replicate k true ++ List.replicate (P.length - k) false) ∧
      Bx wr w.heap.size (.slice A1 P.length c1) (.slice A2 n2 c2) ∧ Below w.heap.size w wr) (fun i _ => P.length - (intOf i).toNat)
  case atStart => exact ⟨0, by omega, rfl, by simpa using ho1, bx1, HB2⟩
  case round =>
    obtain ⟨k, hk, rfl, ho, hx, hB⟩ := hrel
    clear ho1 bx1 HB2
    by_cases hlt : k < P.length
    · have hco := ho.cell (k := k) (by simp; omega)
      have hfo := ho.frozen k
      have hst := ho.set k true
      rw [fillB hlt] at hst
      go_wp2
      go_roundw
      case rel => exact ⟨k + 1, by omega, by go_num, hst.1, hx.grown hst.2 (by simp), hB.grown hst.2 hB.size (fun k hk => by cases hk; omega)⟩
      case measure => simp [intOf] <;> omega
    · have hkn : k = P.length := by omega
      subst hkn
      rw [Nat.sub_self, List.replicate_zero, List.append_nil, ← endsTo_zero] at ho
      obtain ⟨f0, f1, f2, f3, f4⟩ := hx
      go_wp2
      go_loopw [23] (fun i wr => ∃ k : Nat, k ≤ P.length ∧ i = .int .i64 k ∧ OwnB wr (w.heap.size + 1) (some ⟨w.heap.size + 1, 0, none⟩) P.length (endsTo P k) ∧ Below w.heap.size w wr) (fun i _ => P.length - (intOf i).toNat)
      case atStart => exact ⟨0, by omega, rfl, ho, hB⟩
      case round =>
        obtain ⟨k, hk, rfl, ho, hB⟩ := hrel
        clear f0 f1 f2 f3 f4
        by_cases hlt : k < P.length
        · obtain ⟨a, rfl, hca⟩ := (h1.below hB (Nat.le_refl _)).intN hlt
          by_cases hneg : nth P k < 0
          · have HE := Lib.hid (endsTo_neg hlt hneg)
            go_wp2
            go_roundw
            case rel => exact ⟨k + 1, by omega, by go_num, by rw [HE.out]; exact ho, hB⟩
            case measure => simp [intOf] <;> omega
          · obtain ⟨p, hpp⟩ : ∃ p : Nat, nth P k = (p : Int) := ⟨(nth P k).toNat, by omega⟩
            have hpl : p < P.length := by
              rcases Nat.eq_zero_or_pos k with h | h
              · subst h; have := hp.zero; omega
              · have := hp.up k h hlt; omega
            have HE := Lib.hid (endsTo_set hlt hpp)
            have hco := ho.cell (k := p) (by rw [endsTo_length]; exact hpl)
            have hfo := ho.frozen p
            have hst := ho.set p false
            rw [← HE.out] at hst
            rw [hpp] at hca hneg
            clear hpp
            go_wp2
            go_roundw
            case rel => exact ⟨k + 1, by omega, by go_num, hst.1, hB.grown hst.2 hB.size (fun k hk => by cases hk; omega)⟩
            case measure => simp [intOf] <;> omega
        · have hkn : k = P.length := by omega
          subst hkn
          rw [endsTo_all] at ho
          go_wp2
          go_ret
          exact ⟨_, _, rfl, ho.mono (by omega), hB⟩

theorem children_c (A1 : Option Addr) (P : List Int) (c1 : Nat) (A2 : Option Addr) (n2 c2 : Nat) (x : Int) (w : World) (h1 : Rd w A1 (ints P)) (hn : P.length ≤ 24) :
    Calls Try.prog 87 #[trV A1 P.length c1 A2 n2 c2, .int .i64 x] w (Row w (kids P x)) := by
  have HB1 : Below w.heap.size w ((w.alloc (.cells #[.slice A1 P.length c1, .slice A2 n2 c2] 26)).alloc (.cells #[] 3)) := ((Below.refl _ _).alloc (Nat.le_refl _) _).alloc (by simp) _
  have O0 := Own.lit0 (w.alloc (.cells #[.slice A1 P.length c1, .slice A2 n2 c2] 26)) (w.heap.size + 1) (by simp)
  go_enter Try.func87, Try.ntmps87
  go_wp2
  go_loopw [5, 12] (fun t i wr => ∃ k : Nat, ∃ A c, k ≤ P.length ∧ i = .int .i64 k ∧ t = .slice A (kidTo P x k).length c ∧ Own wr w.heap.size A c (kidTo P x k) ∧ Below w.heap.size w wr) (fun _ i _ => P.length - (intOf i).toNat)
  case atStart => exact ⟨0, _, _, by omega, rfl, rfl, O0.mono (by simp), HB1⟩
  case round =>
    obtain ⟨wo, rfl⟩ : ∃ wo : World, wo = wr := ⟨_, rfl⟩
    obtain ⟨k, A, c, hk, rfl, rfl, ho, hB⟩ := hrel
    clear HB1 O0
    by_cases hlt : k < P.length
    · obtain ⟨a, rfl, hca⟩ := (h1.below hB (Nat.le_refl _)).intN hlt
      have hlen := kidTo_len P x k
      by_cases he : nth P k = x
      · have HN := Lib.hid (kidTo_yes he)
        have e1 : (nth P k == x) = true := by simp [he]
        clear he
        go_wp2_with (at_builtin; refine wp_append1 _ _ _ rfl _ _ rfl w.heap.size A _ c (kidTo P x k) rfl rfl ho rfl (by omega) hB.size ?_; rw [← HN.out]; intro A2 c2 w2 ho2 hg2 hb2; have HB2 := hB.grown hg2 hB.size ho.ge; clear hg2 hb2)
        go_roundw
        case rel => exact ⟨k + 1, A2, c2, by omega, by go_num, by rw [HN.out, List.length_append]; rfl, ho2, HB2⟩
        case measure => simp [intOf] <;> omega
      · have HN := Lib.hid (kidTo_no he)
        have e1 : (nth P k == x) = false := by simp [he]
        clear he
        go_wp2
        go_roundw
        case rel => exact ⟨k + 1, A, c, by omega, by go_num, by rw [HN.out], by rw [HN.out]; exact ho, hB⟩
        case measure => simp [intOf] <;> omega
    · have hkn : k = P.length := by omega
      subst hkn
      go_wp2
      go_ret
      exact ⟨_, _, rfl, ho, hB⟩

set_option maxHeartbeats 1000000 in
theorem l2Kids_c (A1 : Option Addr) (P : List Int) (c1 : Nat) (A2 : Option Addr) (n2 c2 : Nat) (x : Nat) (w : World) (h1 : Rd w A1 (ints P)) (hp : ParOk P) (hx : x < P.length) (hn : P.length ≤ 24) :
    Calls Try.prog 111 #[trV A1 P.length c1 A2 n2 c2, .int .i64 (x : Int)] w (Row w (kids P (x : Int))) := by
  have HB1 : Below w.heap.size w ((w.alloc (.cells #[.slice A1 P.length c1, .slice A2 n2 c2] 26)).alloc (.cells #[] 3)) := ((Below.refl _ _).alloc (Nat.le_refl _) _).alloc (by simp) _
  have O0 := Own.lit0 (w.alloc (.cells #[.slice A1 P.length c1, .slice A2 n2 c2] 26)) (w.heap.size + 1) (by simp)
  have bx := (Bx.new w (.slice A1 P.length c1) (.slice A2 n2 c2) 26).alloc (.cells #[] 3)
  have hlow := kidTo_low hp (x := x) (k := x + 1) (by omega) (by omega)
  go_enter Try.func111, Try.ntmps111
  go_wp2
  go_loopw [5, 6] (fun t i wr => ∃ k : Nat, ∃ A c, k ≤ P.length ∧ i = .int .i64 k ∧ t = .slice A (kidTo P (x : Int) k).length c ∧ Own wr (w.heap.size + 1) A c (kidTo P (x : Int) k) ∧ Bx wr w.heap.size (.slice A1 P.length c1) (.slice A2 n2 c2) ∧ Below w.heap.size w wr) (fun _ i _ => P.length - (intOf i).toNat)
  case atStart => exact ⟨x + 1, some ⟨w.heap.size + 1, 0, none⟩, 0, by omega, by go_num, by rw [hlow]; simp, by rw [hlow]; exact O0, bx, HB1⟩
  case round =>
    obtain ⟨wo, rfl⟩ : ∃ wo : World, wo = wr := ⟨_, rfl⟩
    obtain ⟨k, A, c, hk, rfl, rfl, ho, hx, hB⟩ := hrel
    clear HB1 O0 bx hlow
    have hx' := hx
    obtain ⟨f0, f1, f2, f3, f4⟩ := hx
    by_cases hlt : k < P.length
    · obtain ⟨a, rfl, hca⟩ := (h1.below hB (Nat.le_refl _)).intN hlt
      have hlen := kidTo_len P x k
      by_cases he : nth P k = (x : Int)
      · have HN := Lib.hid (kidTo_yes he)
        have e1 : (nth P k == (x : Int)) = true := by simp [he]
        clear he
        go_wp2_with (at_builtin; refine wp_append1 _ _ _ rfl _ _ rfl (w.heap.size + 1) A _ c (kidTo P (x : Int) k) rfl rfl ho rfl (by omega) (by omega) ?_; rw [← HN.out]; intro A2 c2 w2 ho2 hg2 hb2; have HB2 := hB.grown hg2 hB.size (fun k hk => by have := ho.ge k hk; omega); have hx2 := hx'.grown hg2 (row_ne ho (by omega)); clear hg2 hb2)
        go_roundw
        case rel => exact ⟨k + 1, A2, c2, by omega, by go_num, by rw [HN.out, List.length_append]; rfl, ho2, hx2, HB2⟩
        case measure => simp [intOf] <;> omega
      · have HN := Lib.hid (kidTo_no he)
        have e1 : (nth P k == (x : Int)) = false := by simp [he]
        clear he
        go_wp2
        go_roundw
        case rel => exact ⟨k + 1, A, c, by omega, by go_num, by rw [HN.out], by rw [HN.out]; exact ho, hx', hB⟩
        case measure => simp [intOf] <;> omega
    · have hkn : k = P.length := by omega
      subst hkn
      go_wp2
      go_ret
      exact ⟨_, _, rfl, ho.mono (by omega), hB⟩
end Go.Proofs.Ytnhclpajfejnoaa
