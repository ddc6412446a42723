/- The laws' own helpers on slices of numbers: a copy, a comparison, marks. -/
import Derived.Test.YtjnllbmknblecaaBase
namespace Go.Proofs.Ytjnllbmknblecaa
open Go.RowKit

theorem take_succ_eq {xs ys : List Int} {k : Nat} (hx : k < xs.length) (hy : k < ys.length) (h : xs.take k = ys.take k) (he : xs[k] = ys[k]) : xs.take (k + 1) = ys.take (k + 1) := by
  rw [List.take_succ_eq_append_getElem hx, List.take_succ_eq_append_getElem hy, h, he]
theorem take_all_eq {xs ys : List Int} {k : Nat} (hk : ¬ k < xs.length) (hl : xs.length = ys.length) (h : xs.take k = ys.take k) : xs = ys := by
  rwa [List.take_of_length_le (by omega), List.take_of_length_le (by omega)] at h

theorem eqIntS_c (A B : Option Addr) (xs ys : List Int) (ca cb : Nat) (w : World) (ha : Rd w A (ints xs)) (hb : Rd w B (ints ys))
    (hx : xs.length ≤ 16777216) (hy : ys.length ≤ 16777216) :
    Calls Try.prog 18 #[.slice A xs.length ca, .slice B ys.length cb] w (Pure w (.bool (decide (xs = ys)))) := by
  by_cases hl : xs.length = ys.length
  · have hl1 : ((xs.length : Int) == (ys.length : Int)) = true := by simp [hl]
    have hl2 : ((xs.length : Int) != (ys.length : Int)) = false := by simp [hl]
    have HL := Lib.hid hl
    clear hl
    go_enter Try.func18, Try.ntmps18
    go_wp2
    go_loopw [5] (fun i wr => ∃ k n : Nat, k ≤ xs.length ∧ i = .int .i64 k ∧ wr = w.drewN n ∧ xs.take k = ys.take k) (fun i _ => xs.length - (intOf i).toNat)
    case atStart => exact ⟨0, 0, by omega, rfl, rfl, rfl⟩
    case round =>
      obtain ⟨k, n, hk, rfl, rfl, ht⟩ := hrel
      have HT := Lib.hid ht
      clear ht
      by_cases hlt : k < xs.length
      · have hlt2 : k < ys.length := by have := HL.out; omega
        obtain ⟨a, rfl, hca⟩ := ha.int hlt
        obtain ⟨b, rfl, hcb⟩ := hb.int hlt2
        by_cases he : xs[k] = ys[k]
        · have e1 : (xs[k] != ys[k]) = false := by simp [he]
          have HE := Lib.hid he
          clear he
          go_wp2
          go_quiet (fail)
          go_wp2
          go_roundw
          case rel => exact ⟨k + 1, _, by omega, by go_num, rfl, take_succ_eq hlt hlt2 HT.out HE.out⟩
          case measure => simp [intOf] <;> omega
        · have e1 : (xs[k] != ys[k]) = true := by simp [he]
          have hne : xs ≠ ys := fun h => by subst h; exact he rfl
          go_wp2
          go_quiet (fail)
          go_wp2
          go_ret
          exact ⟨by simp [hne], (Dr.refl w).drewN _ |>.drewN _⟩
      · go_wp2
        go_ret
        exact ⟨by rw [decide_eq_true (take_all_eq hlt HL.out HT.out)]; rfl, (Dr.refl w).drewN _⟩
  · have hl1 : ((xs.length : Int) == (ys.length : Int)) = false := by simp; omega
    have hl2 : ((xs.length : Int) != (ys.length : Int)) = true := by simp; omega
    have hne : xs ≠ ys := fun h => hl (by rw [h])
    go_enter Try.func18, Try.ntmps18
    go_wp2
    go_ret
    exact ⟨by simp [hne], Dr.refl w⟩

theorem fill_step (xs : List Int) (k : Nat) (hk : k < xs.length) :
    (ints (xs.take k ++ List.replicate (xs.length - k) 0)).set k (.int .i64 xs[k]) = ints (xs.take (k + 1) ++ List.replicate (xs.length - (k + 1)) 0) := by
  rw [ints_set]
  congr 1
  apply List.ext_getElem?
  intro j
  have hl : (xs.take k).length = k := by simp; omega
  rw [List.getElem?_set]
  by_cases hj : k = j
  · subst hj
    rw [if_pos rfl, if_pos (by simp; omega), List.getElem?_append_left (by simp; omega), List.getElem?_take, if_pos (by omega), List.getElem?_eq_getElem hk]
  · rw [if_neg hj]
    by_cases h2 : j < k
    · rw [List.getElem?_append_left (by simp; omega), List.getElem?_append_left (by simp; omega), List.getElem?_take, List.getElem?_take, if_pos h2, if_pos (by omega)]
    · rw [List.getElem?_append_right (by simp; omega), List.getElem?_append_right (by simp; omega), List.getElem?_replicate, List.getElem?_replicate]
      simp only [List.length_take]
      by_cases h3 : j < xs.length
      · rw [if_pos (by omega), if_pos (by omega)]
      · rw [if_neg (by omega), if_neg (by omega)]

theorem toIntS_c (A : Option Addr) (xs : List Int) (ca : Nat) (w : World) (ha : Rd w A (ints xs)) (hx : xs.length ≤ 16777216) :
    Calls Try.prog 16 #[.slice A xs.length ca] w fun e w' =>
      e = .returned (.slice (some ⟨w.heap.size, 0, none⟩) xs.length xs.length) ∧ Own w' w.heap.size (some ⟨w.heap.size, 0, none⟩) xs.length xs ∧ Below w.heap.size w w' := by
  obtain ⟨i0, hi, hz0, hz1, hz2⟩ := info_parts int_info
  go_enter Try.func16, Try.ntmps16
  go_wp2_with (at_make; refine wpList_make_full _ rfl _ _ _ rfl w.heap.size 3 i0 _ 1 Try.underlying22 hi hz0 hz1 _ _ _ _ xs.length rfl rfl rfl rfl (by rw [hz2]; omega) (by unfold maxLen; omega) (Nat.le_refl _) ?_)
  intro w1 hown hg
  have hb1 : Below w.heap.size w w1 := (Below.refl _ _).grown hg (Nat.le_refl _) (by simp)
  clear hg
  go_wp2
  go_loopw [4] (fun i wr => ∃ k : Nat, k ≤ xs.length ∧ i = .int .i64 k ∧
      wr.ownsRow w.heap.size 3 1 (.slice (some ⟨w.heap.size, 0, none⟩) xs.length xs.length) xs.length (ints (xs.take k ++ List.replicate (xs.length - k) 0)) ∧ Below w.heap.size w wr)
    (fun i _ => xs.length - (intOf i).toNat)
  case atStart => exact ⟨0, by omega, rfl, by simpa [toList_madeCells_one, Value.cells, ints] using hown, hb1⟩
  case round =>
    obtain ⟨k, hk, rfl, ho, hb⟩ := hrel
    clear hown hb1
    by_cases hlt : k < xs.length
    · obtain ⟨a, rfl, hca⟩ := (ha.below hb (Nat.le_refl _)).int hlt
      have hco := ho.cellAt k (by omega)
      rw [List.getElem?_eq_getElem (by simp [ints]; omega)] at hco
      have hfo := ho.frozenAt k
      have hst := ho.stored k (.int .i64 xs[k])
      rw [fill_step xs k hlt] at hst
      go_wp2
      go_roundw
      case rel => exact ⟨k + 1, by omega, by go_num, hst.1, hb.grown hst.2 hb.size (by simp)⟩
      case measure => simp [intOf] <;> omega
    · go_wp2
      go_ret
      have hkn : k = xs.length := by omega
      subst hkn
      exact ⟨rfl, by simpa [Own] using ho, hb⟩

/-- The marks: k, k + 1, .. -/
def marks (k : Int) (n : Nat) : List Int := (List.range n).map fun i : Nat => k + (i : Int)
theorem marks_length (k : Int) (n : Nat) : (marks k n).length = n := by simp [marks]
theorem marks_step (k : Int) (xs : List Int) (i : Nat) (hi : i < xs.length) :
    (marks k i ++ xs.drop i).set i (k + (i : Int)) = marks k (i + 1) ++ xs.drop (i + 1) := by
  rw [List.set_append_right _ _ (by simp [marks]), marks_length, Nat.sub_self, List.drop_eq_getElem_cons hi, List.set_cons_zero]
  simp [marks, List.range_succ]

theorem markIntS_c (B : Nat) (A : Option Addr) (c : Nat) (xs : List Int) (m : Int) (w : World) (ho : Own w B A c xs) (hx : xs.length ≤ 16777216) (hm0 : 0 ≤ m) (hm : m ≤ 1099511627776) :
    Calls Try.prog 28 #[.slice A xs.length c, .int .i64 m] w fun e w' =>
      e = .returned (.int .i64 (m + xs.length)) ∧ Own w' B A c (marks m xs.length) ∧ w.grownBy w' (blk A) := by
  go_enter Try.func28, Try.ntmps28
  go_wp2
  go_loopw [1, 5] (fun q i wr => ∃ k : Nat, k ≤ xs.length ∧ i = .int .i64 k ∧ q = .int .i64 (m + k) ∧
      Own wr B A c (marks m k ++ xs.drop k) ∧ w.grownBy wr (blk A))
    (fun _ i _ => xs.length - (intOf i).toNat)
  case atStart => exact ⟨0, by omega, rfl, by simp, by simpa [marks] using ho, World.grownBy.refl _ _⟩
  case round =>
    obtain ⟨k, hk, rfl, rfl, hown, hg⟩ := hrel
    have hl : (marks m k ++ xs.drop k).length = xs.length := by simp [marks]; omega
    by_cases hlt : k < xs.length
    · obtain ⟨g, rfl, hB, hgl⟩ := hown.form (by omega)
      obtain ⟨u, hco⟩ := hown.some_ (k := k) (by omega)
      have hfo := hown.frozen k
      have hst := hown.set k (m + k)
      rw [marks_step m xs k hlt] at hst
      clear hl
      go_wp2
      go_roundw
      case rel => exact ⟨k + 1, by omega, by go_num, by go_num, hst.1, hg.trans hst.2⟩
      case measure => simp [intOf] <;> omega
    · clear hl
      go_wp2
      go_ret
      have hkn : k = xs.length := by omega
      subst hkn
      exact ⟨rfl, by simpa using hown, hg⟩

theorem heldIntS_c (A : Option Addr) (c n : Nat) (m : Int) (w : World) (ho : Rd w A (ints (marks m n))) (hx : n ≤ 16777216) (hm0 : 0 ≤ m) (hm : m ≤ 1099511627776) :
    Calls Try.prog 29 #[.slice A n c, .int .i64 m] w (Pure w (.int .i64 (m + n))) := by
  go_enter Try.func29, Try.ntmps29
  go_wp2
  go_loop [1, 5] (fun q i => ∃ k : Nat, k ≤ n ∧ i = .int .i64 k ∧ q = .int .i64 (m + k)) (fun _ i => n - (intOf i).toNat)
  case atStart => exact ⟨0, by omega, rfl, by simp⟩
  case round =>
    obtain ⟨k, hk, rfl, rfl⟩ := hrel
    by_cases hlt : k < n
    · obtain ⟨ad, rfl, hc⟩ := ho.int (k := k) (by simpa [marks] using hlt)
      have hmk : (marks m n)[k]'(by simpa [marks] using hlt) = m + k := by simp [marks]
      rw [hmk] at hc
      clear hmk
      go_wp2
      go_round
      case rel => exact ⟨k + 1, by omega, by go_num, by go_num⟩
      case measure => simp [intOf] <;> omega
    · go_wp2
      go_ret
      have hkn : k = n := by omega
      subst hkn
      exact ⟨rfl, Dr.refl w⟩
end Go.Proofs.Ytjnllbmknblecaa
