/- Rows of pairs: the laws' own helpers: a comparison, marks; the library's turning round. -/
import Derived.Test.YtjnllbmknblecaaPairs
import Derived.Test.YtjnllbmknblecaaFrac
import Derived.Test.YtjnllbmknblecaaButA
namespace Go.Proofs.Ytjnllbmknblecaa

theorem row_neP {w : World} {B g c : Nat} {A : Option Addr} {ps : List (Int × Int)} (h : OwnP w B A c ps) (hg : g < B) : blk A ≠ some g := fun e => by
  have := h.ge g e
  omega
open Go.RowKit

set_option maxRecDepth 20000 in
theorem eqIntA2S_same (A B : Option Addr) (ps : List (Int × Int)) (ca cb Ba Bb : Nat) (w : World) (ha : OwnP w Ba A ca ps) (hb : OwnP w Bb B cb ps) (hn : ps.length ≤ 16777216) :
    Calls Try.prog 36 #[.slice A ps.length ca, .slice B ps.length cb] w (Quietly w (.bool true)) := by
  have hl1 : ((ps.length : Int) != (ps.length : Int)) = false := by simp
  go_enter Try.func36, Try.ntmps36
  go_wp2
  go_loopw [5] (fun i wr => ∃ k : Nat, k ≤ ps.length ∧ i = .int .i64 k ∧ Below w.heap.size w wr) (fun i _ => ps.length - (intOf i).toNat)
  case atStart => exact ⟨0, by omega, rfl, Below.refl _ _⟩
  case round =>
    obtain ⟨k, hk, rfl, hB⟩ := hrel
    by_cases hlt : k < ps.length
    · obtain ⟨ga, rfl, _, hga⟩ := ha.form (by omega)
      obtain ⟨gb, rfl, _, hgb⟩ := hb.form (by omega)
      have fa := (ha.below hB).cells hlt
      have fb := (hb.below hB).cells hlt
      have i1 : (0 : Int) ≤ (k : Int) := by omega
      have i2 : (k : Int) < (ps.length : Int) := by omega
      obtain ⟨fa0, fa1⟩ := fa
      obtain ⟨fb0, fb1⟩ := fb
      go_wp2
      refine wp_region_still_tail 8 (by kernel_rfl) (by kernel_rfl) ?_
      simp only [List.take_succ_cons, List.take_zero, List.drop_succ_cons, List.drop_zero]
      repeat still_step
      refine wpStill_nil ?_
      change wpList _ _ _ _ _ wr.drew
      clear fa0 fa1 fb0 fb1
      go_wp2_with fail
      refine (eqIntA2_same _ _ _).mono ?_
      rintro e w2 ⟨rfl, hb2⟩
      have HB2 := bUp hB.drew hb2 hB.size
      go_wp2
      go_roundw
      case rel => exact ⟨k + 1, by omega, by go_num, HB2⟩
      case measure => simp [intOf] <;> omega
    · go_wp2
      go_ret
      exact ⟨rfl, hB⟩
/-- Numbers m, m + 1, .. as pairs. -/
def pmarks (m : Int) (n : Nat) : List (Int × Int) := (List.range n).map fun (k : Nat) => (m + 2 * (k : Int), m + 2 * (k : Int) + 1)
theorem pmarks_length (m : Int) (n : Nat) : (pmarks m n).length = n := by simp [pmarks]
theorem pmarks_step (m : Int) (ps : List (Int × Int)) (k : Nat) (hk : k < ps.length) :
    pset (pset (pmarks m k ++ ps.drop k) k 0 (m + 2 * (k : Int))) k 1 (m + 2 * (k : Int) + 1) = pmarks m (k + 1) ++ ps.drop (k + 1) := by
  have hl : k < (pmarks m k ++ ps.drop k).length := by simp [pmarks_length]; omega
  have e1 : pset (pmarks m k ++ ps.drop k) k 0 (m + 2 * (k : Int)) = (pmarks m k ++ ps.drop k).set k (m + 2 * (k : Int), pB (pmarks m k ++ ps.drop k) k) := by simp [pset]
  have e2 : pT ((pmarks m k ++ ps.drop k).set k (m + 2 * (k : Int), pB (pmarks m k ++ ps.drop k) k)) k = m + 2 * (k : Int) := by simp only [pT, List.getD_eq_getElem?_getD, List.getElem?_set_self hl]; rfl
  rw [e1]
  unfold pset
  rw [if_neg (by decide), e2, List.set_set, List.set_append_right _ _ (by rw [pmarks_length]; exact Nat.le_refl _), pmarks_length, Nat.sub_self, List.drop_eq_getElem_cons hk, List.set_cons_zero]
  simp [pmarks, List.range_succ]
set_option maxRecDepth 20000 in
theorem markIntA2S_c (B : Nat) (A : Option Addr) (c : Nat) (ps : List (Int × Int)) (m : Int) (w : World) (ho : OwnP w B A c ps) (hx : ps.length ≤ 16777216) (hm0 : 0 ≤ m) (hm : m ≤ 1099511627776) :
    Calls Try.prog 37 #[.slice A ps.length c, .int .i64 m] w fun e w' =>
      e = .returned (.int .i64 (m + 2 * (ps.length : Int))) ∧ OwnP w' B A c (pmarks m ps.length) ∧ w.grownBy w' (blk A) := by
  go_enter Try.func37, Try.ntmps37
  go_wp2
  go_loopw [1, 5] (fun q i wr => ∃ k : Nat, k ≤ ps.length ∧ i = .int .i64 k ∧ q = .int .i64 (m + 2 * (k : Int)) ∧
      OwnP wr B A c (pmarks m k ++ ps.drop k) ∧ w.grownBy wr (blk A)) (fun _ i _ => ps.length - (intOf i).toNat)
  case atStart => exact ⟨0, by omega, rfl, by simp, by simpa [pmarks] using ho, World.grownBy.refl _ _⟩
  case round =>
    obtain ⟨k, hk, rfl, rfl, hown, hg⟩ := hrel
    have hl : (pmarks m k ++ ps.drop k).length = ps.length := by simp [pmarks_length]; omega
    by_cases hlt : k < ps.length
    · obtain ⟨g, rfl, _, _⟩ := hown.form (by omega)
      have hst0 := hown.set (k := k) (j := 0) (m + 2 * (k : Int)) (by omega) (by decide)
      have hst1 := hst0.1.set (k := k) (j := 1) (m + 2 * (k : Int) + 1) (by rw [pset_length]; omega) (by decide)
      have HS := Lib.hid (pmarks_step m ps k hlt)
      have f0 := (hown.cells (k := k) (by omega)).1
      have f1 := (hown.cells (k := k) (by omega)).2
      have z0 := hown.frozen (k * 2)
      have z1 := hown.frozen (k * 2 + 1)
      have HG := hg.trans (hst0.2.trans hst1.2)
      obtain ⟨wo, rfl⟩ : ∃ wo : World, wo = wr := ⟨_, rfl⟩
      go_wp2
      go_loopw [1, 6] (fun q j wr => (j = .int .i64 0 ∧ q = .int .i64 (m + 2 * (k : Int)) ∧ wr = wo) ∨ (j = .int .i64 1 ∧ q = .int .i64 (m + 2 * (k : Int) + 1) ∧ wr = wo.setCell ⟨g, k * 2, none⟩ (.int .i64 (m + 2 * (k : Int)))) ∨
        (j = .int .i64 2 ∧ q = .int .i64 (m + 2 * (k : Int) + 1 + 1) ∧ wr = (wo.setCell ⟨g, k * 2, none⟩ (.int .i64 (m + 2 * (k : Int)))).setCell ⟨g, k * 2 + 1, none⟩ (.int .i64 (m + 2 * (k : Int) + 1)))) (fun _ j _ => 2 - (intOf j).toNat)
      case atStart => exact .inl ⟨rfl, rfl, rfl⟩
      case round =>
        rcases hrel with ⟨rfl, rfl, rfl⟩ | ⟨rfl, rfl, rfl⟩ | ⟨rfl, rfl, rfl⟩
        · go_wp2
          go_roundw
          case rel => simp
          case measure => simp [intOf]
        · go_wp2
          go_roundw
          case rel => simp
          case measure => simp [intOf]
        · go_wp2
          go_roundw
          case rel => exact ⟨k + 1, by omega, by go_num, by go_num, by rw [← HS.out]; exact hst1.1, HG⟩
          case measure => simp [intOf] <;> omega
    · clear hl
      go_wp2
      go_ret
      have hkn : k = ps.length := by omega
      subst hkn
      exact ⟨rfl, by simpa using hown, hg⟩
theorem pmarks_T (m : Int) (n k : Nat) (hk : k < n) : pT (pmarks m n) k = m + 2 * (k : Int) ∧ pB (pmarks m n) k = m + 2 * (k : Int) + 1 := by
  constructor <;> simp [pT, pB, pmarks, hk]
set_option maxRecDepth 20000 in
theorem heldIntA2S_c (B : Nat) (A : Option Addr) (c n : Nat) (m : Int) (w : World) (ho : OwnP w B A c (pmarks m n)) (hx : n ≤ 16777216) (hm0 : 0 ≤ m) (hm : m ≤ 1099511627776) :
    Calls Try.prog 38 #[.slice A n c, .int .i64 m] w (Pure w (.int .i64 (m + 2 * (n : Int)))) := by
  go_enter Try.func38, Try.ntmps38
  go_wp2
  go_loop [1, 5] (fun q i => ∃ k : Nat, k ≤ n ∧ i = .int .i64 k ∧ q = .int .i64 (m + 2 * (k : Int))) (fun _ i => n - (intOf i).toNat)
  case atStart => exact ⟨0, by omega, rfl, by simp⟩
  case round =>
    obtain ⟨k, hk, rfl, rfl⟩ := hrel
    by_cases hlt : k < n
    · obtain ⟨g, rfl, _, _⟩ := ho.form (by rw [pmarks_length]; omega)
      have f := ho.cells (k := k) (by rw [pmarks_length]; omega)
      rw [(pmarks_T m n k hlt).1, (pmarks_T m n k hlt).2] at f
      obtain ⟨f0, f1⟩ := f
      go_wp2
      go_loop [1, 6] (fun q j => (j = .int .i64 0 ∧ q = .int .i64 (m + 2 * (k : Int))) ∨ (j = .int .i64 1 ∧ q = .int .i64 (m + 2 * (k : Int) + 1)) ∨ (j = .int .i64 2 ∧ q = .int .i64 (m + 2 * (k : Int) + 1 + 1))) (fun _ j => 2 - (intOf j).toNat)
      case atStart => exact .inl ⟨rfl, rfl⟩
      case round =>
        rcases hrel with ⟨rfl, rfl⟩ | ⟨rfl, rfl⟩ | ⟨rfl, rfl⟩
        · go_wp2
          go_round
          case rel => exact .inr (.inl ⟨rfl, rfl⟩)
          case measure => simp [intOf]
        · go_wp2
          go_round
          case rel => exact .inr (.inr ⟨rfl, rfl⟩)
          case measure => simp [intOf]
        · go_wp2
          go_round
          case rel => exact ⟨k + 1, by omega, by go_num, by go_num⟩
          case measure => simp [intOf] <;> omega
    · go_wp2
      go_ret
      have hkn : k = n := by omega
      subst hkn
      exact ⟨rfl, Dr.refl w⟩
end Go.Proofs.Ytjnllbmknblecaa
