/- The library's turning round of a row of pairs. -/
import Derived.Test.YtjnllbmknblecaaPairsW
import Derived.Test.YtjnllbmknblecaaBxM
namespace Go.Proofs.Ytjnllbmknblecaa
open Go.RowKit

/-- The first k pairs and the last k have changed places. -/
def revK (ps : List (Int × Int)) (k : Nat) : List (Int × Int) := (List.range ps.length).map fun t => if t < k ∨ ps.length - k ≤ t then ps.getD (ps.length - 1 - t) (0, 0) else ps.getD t (0, 0)
theorem revK_length (ps : List (Int × Int)) (k : Nat) : (revK ps k).length = ps.length := by simp [revK]
theorem revK_at (ps : List (Int × Int)) (k t : Nat) (ht : t < ps.length) : (revK ps k)[t]? = some (if t < k ∨ ps.length - k ≤ t then ps.getD (ps.length - 1 - t) (0, 0) else ps.getD t (0, 0)) := by
  simp [revK, ht]
theorem revK_zero (ps : List (Int × Int)) : revK ps 0 = ps := by
  apply List.ext_getElem?
  intro t
  by_cases ht : t < ps.length
  · rw [revK_at ps 0 t ht, if_neg (by omega)]
    simp [ht]
  · rw [List.getElem?_eq_none (by rw [revK_length]; omega), List.getElem?_eq_none (by omega)]
theorem revK_end (ps : List (Int × Int)) (k j : Nat) (h : k + j + 1 = ps.length) (hk : ¬ k < j) : revK ps k = ps.reverse := by
  apply List.ext_getElem?
  intro t
  by_cases ht : t < ps.length
  · rw [revK_at ps k t ht, List.getElem?_reverse ht]
    split
    · simp only [List.getD_eq_getElem?_getD]
      rw [List.getElem?_eq_getElem (by omega)]
      rfl
    · have e : ps.length - 1 - t = t := by omega
      rw [e]
      simp [ht]
  · rw [List.getElem?_eq_none (by rw [revK_length]; omega), List.getElem?_eq_none (by rw [List.length_reverse]; omega)]
theorem revK_pair (ps : List (Int × Int)) (k t : Nat) : (pT (revK ps k) t, pB (revK ps k) t) = (revK ps k).getD t (0, 0) := rfl
theorem revK_step (ps : List (Int × Int)) (k j : Nat) (h : k + j + 1 = ps.length) (hk : k < j) :
    ((revK ps k).set k (pT (revK ps k) j, pB (revK ps k) j)).set j (pT (revK ps k) k, pB (revK ps k) k) = revK ps (k + 1) := by
  rw [revK_pair, revK_pair]
  apply List.ext_getElem?
  intro t
  by_cases ht : t < ps.length
  · rw [List.getElem?_set, List.length_set, revK_length, List.getElem?_set, revK_length, revK_at ps k t ht, revK_at ps (k + 1) t ht]
    have gd : ∀ t, t < ps.length → (revK ps k).getD t (0, 0) = if t < k ∨ ps.length - k ≤ t then ps.getD (ps.length - 1 - t) (0, 0) else ps.getD t (0, 0) := fun t ht => by
      rw [List.getD_eq_getElem?_getD, revK_at ps k t ht]
      rfl
    rw [gd j (by omega), gd k (by omega)]
    by_cases e1 : j = t
    · subst e1
      rw [if_pos rfl, if_pos ht, if_neg (by omega), if_pos (by omega)]
      congr 1
      congr 1
      omega
    · rw [if_neg e1]
      by_cases e2 : k = t
      · subst e2
        rw [if_pos rfl, if_pos ht, if_neg (by omega), if_pos (by omega)]
        congr 1
        congr 1
        omega
      · rw [if_neg e2]
        by_cases e3 : t < k ∨ ps.length - k ≤ t
        · rw [if_pos e3, if_pos (by omega)]
        · rw [if_neg e3, if_neg (by omega)]
  · rw [List.getElem?_eq_none (by rw [List.length_set, List.length_set, revK_length]; omega), List.getElem?_eq_none (by rw [revK_length]; omega)]
theorem OwnP.setP {w : World} {B g c : Nat} {ps : List (Int × Int)} (h : OwnP w B (some ⟨g, 0, none⟩) c ps) {k : Nat} (x y : Int) (hk : k < ps.length) :
    OwnP ((w.setCell ⟨g, k * 2, none⟩ (.int .i64 x)).setCell ⟨g, k * 2 + 1, none⟩ (.int .i64 y)) B (some ⟨g, 0, none⟩) c (ps.set k (x, y)) ∧
      w.grownBy ((w.setCell ⟨g, k * 2, none⟩ (.int .i64 x)).setCell ⟨g, k * 2 + 1, none⟩ (.int .i64 y)) (some g) := by
  have h1 := h.set (k := k) (j := 0) x hk (by decide)
  have h2 := h1.1.set (k := k) (j := 1) y (by rw [pset_length]; exact hk) (by decide)
  have e : pset (pset ps k 0 x) k 1 y = ps.set k (x, y) := by simp [pset, pT, hk]
  rw [e] at h2
  exact ⟨h2.1, h1.2.trans h2.2⟩

set_option maxRecDepth 20000 in
set_option maxHeartbeats 1000000 in
theorem reverseP_c (B g c : Nat) (ps : List (Int × Int)) (w : World) (ho : OwnP w B (some ⟨g, 0, none⟩) c ps) (hn : 1 ≤ ps.length) (hx : ps.length ≤ 16777216) :
    Calls Try.prog 80 #[.slice (some ⟨g, 0, none⟩) ps.length c] w fun e w' => e = .returned (.tuple #[]) ∧ OwnP w' B (some ⟨g, 0, none⟩) c ps.reverse ∧ w.grownBy w' (some g) := by
  go_enter Try.func80, Try.ntmps80
  go_wp2
  go_loopw [2, 3] (fun s t wr => ∃ k j : Nat, k + j + 1 = ps.length ∧ s = .int .i64 k ∧ t = .int .i64 j ∧ OwnP wr B (some ⟨g, 0, none⟩) c (revK ps k) ∧ w.grownBy wr (some g)) (fun _ t _ => (intOf t).toNat)
  case atStart => exact ⟨0, ps.length - 1, by omega, rfl, by go_num, by rw [revK_zero]; exact ho, World.grownBy.refl _ _⟩
  case round =>
    obtain ⟨k, j, he, rfl, rfl, ho, hg⟩ := hrel
    have HE := Lib.hid he
    have hbk : k < ps.length := by omega
    have hbj : j < ps.length := by omega
    clear he
    by_cases hlt : k < j
    · have fj := ho.cells (k := j) (by rw [revK_length]; exact hbj)
      have fk := ho.cells (k := k) (by rw [revK_length]; exact hbk)
      have i1 : (0 : Int) ≤ (k : Int) := by omega
      have i2 : (k : Int) < (ps.length : Int) := by omega
      have i3 : (0 : Int) ≤ (j : Int) := by omega
      have i4 : (j : Int) < (ps.length : Int) := by omega
      have s1 := ho.setP (k := k) (pT (revK ps k) j) (pB (revK ps k) j) (by rw [revK_length]; exact hbk)
      have s2 := s1.1.setP (k := j) (pT (revK ps k) k) (pB (revK ps k) k) (by rw [List.length_set, revK_length]; exact hbj)
      rw [revK_step ps k j HE.out hlt] at s2
      have hg2 := hg.trans (s1.2.trans s2.2)
      have s2 := s2.1
      clear s1
      have zk0 := ho.frozen (k * 2)
      have zk1 := ho.frozen (k * 2 + 1)
      have zj0 := ho.frozen (j * 2)
      have zj1 := ho.frozen (j * 2 + 1)
      have n1 : ¬ k * 2 = j * 2 := by omega
      have n2 : ¬ k * 2 = j * 2 + 1 := by omega
      have n3 : ¬ k * 2 + 1 = j * 2 := by omega
      have n4 : ¬ k * 2 + 1 = j * 2 + 1 := by omega
      go_wp2
      refine tamed_region (S := fun w' => w'.cell? ⟨g, j * 2, none⟩ = some (.int .i64 (pT (revK ps k) j)) ∧ w'.cell? ⟨g, j * 2 + 1, none⟩ = some (.int .i64 (pB (revK ps k) j)) ∧ w'.cell? ⟨g, k * 2, none⟩ = some (.int .i64 (pT (revK ps k) k)) ∧ w'.cell? ⟨g, k * 2 + 1, none⟩ = some (.int .i64 (pB (revK ps k) k))) (fun t => t == 13 || t == 15) (by kernel_rfl) ?_
      have hS0 := And.intro fj.1 (And.intro fj.2 (And.intro fk.1 fk.2))
      refine tame0 (k := 0) ?_ rfl (by kernel_rfl) (by kernel_rfl) (by kernel_rfl) (fun _ _ _ h => h) (by rfl) (fun v => ?_) ?_
      rotate_left
      · (go_simp; all_goals rfl)
      simp only [Act.put, List.setIfInBounds_toArray]
      refine tame0 (k := 1) ?_ rfl (by kernel_rfl) (by kernel_rfl) (by kernel_rfl) (fun _ _ _ h => h) (by rfl) (fun v => ?_) ?_
      rotate_left
      · (go_simp; all_goals rfl)
      simp only [Act.put]
      refine tame0 (k := 2) ?_ rfl (by kernel_rfl) (by kernel_rfl) (by kernel_rfl) (fun _ _ _ h => h) (by rfl) (fun v => ?_) ?_
      rotate_left
      · (go_simp; all_goals rfl)
      simp only [Act.put]
      refine tame0 (k := 3) ?_ rfl (by kernel_rfl) (by kernel_rfl) (by kernel_rfl) (fun _ _ _ h => h) (by rfl) (fun v => ?_) ?_
      rotate_left
      · (go_simp; all_goals rfl)
      simp only [Act.put]
      refine tame0 (k := 4) ?_ rfl (by kernel_rfl) (by kernel_rfl) (by kernel_rfl) (fun _ _ _ h => h) (by rfl) (fun v => ?_) ?_
      rotate_left
      · (go_simp; all_goals rfl)
      simp only [Act.put]
      refine tame0 (k := 5) ?_ rfl (by kernel_rfl) (by kernel_rfl) (by kernel_rfl) (fun _ _ _ h => h) (by rfl) (fun v => ?_) ?_
      rotate_left
      · (go_simp; all_goals rfl)
      simp only [Act.put]
      refine tame0 (k := 6) ?_ rfl (by kernel_rfl) (by kernel_rfl) (by kernel_rfl) (fun _ _ _ h => h) (by rfl) (fun v => ?_) ?_
      rotate_left
      · (go_simp; all_goals rfl)
      simp only [Act.put]
      refine tame0 (k := 8) ?_ rfl (by kernel_rfl) (by kernel_rfl) (by kernel_rfl) (fun _ _ _ h => h) (by rfl) (fun v => ?_) ?_
      rotate_left
      · (go_simp; all_goals rfl)
      simp only [Act.put]
      refine tame0 (k := 9) ?_ rfl (by kernel_rfl) (by kernel_rfl) (by kernel_rfl) (fun _ _ _ h => h) (by rfl) (fun v => ?_) ?_
      rotate_left
      · (go_simp; all_goals rfl)
      simp only [Act.put]
      refine tame0 (k := 10) ?_ rfl (by kernel_rfl) (by kernel_rfl) (by kernel_rfl) (fun _ _ _ h => h) (by rfl) (fun v => ?_) ?_
      rotate_left
      · (go_simp; all_goals rfl)
      simp only [Act.put]
      refine tame (k := 7) ?_ rfl (by kernel_rfl) (by kernel_rfl) (by kernel_rfl) (by kernel_rfl) (fun _ _ _ h => h) (by rfl) hS0 (fun v hv => ?_) ?_
      rotate_left
      · (obtain ⟨g0, g1, g2, g3⟩ := hv; go_simp; all_goals rfl)
      simp only [Act.put]
      refine tame (k := 11) ?_ rfl (by kernel_rfl) (by kernel_rfl) (by kernel_rfl) (by kernel_rfl) (fun _ _ _ h => h) (by rfl) hS0 (fun v hv => ?_) ?_
      rotate_left
      · (obtain ⟨g0, g1, g2, g3⟩ := hv; go_simp; all_goals rfl)
      simp only [Act.put]
      refine tame0 (k := 12) ?_ rfl (by kernel_rfl) (by kernel_rfl) (by kernel_rfl) (fun _ _ _ h => h) (by rfl) (fun v => ?_) ?_
      rotate_left
      · (go_simp; all_goals rfl)
      simp only [Act.put]
      obtain ⟨fj0, fj1⟩ := fj
      obtain ⟨fk0, fk1⟩ := fk
      clear hS0
      refine tame_one (k := 13) (by kernel_rfl) rfl (by rfl) ?_
      go_simp
      refine tame0 (k := 14) ?_ rfl (by kernel_rfl) (by kernel_rfl) (by kernel_rfl) (fun _ _ _ h => h) (by rfl) (fun v => ?_) ?_
      rotate_left
      · (go_simp; all_goals rfl)
      simp only [Act.put, List.setIfInBounds_toArray]
      refine tame_one (k := 15) (by kernel_rfl) rfl (by rfl) ?_
      go_simp
      refine tame_end (by kernel_rfl) ?_
      clear fj0 fj1 fk0 fk1 zk0 zk1 zj0 zj1
      go_wp2
      go_roundw
      case rel => exact ⟨k + 1, j - 1, by have := HE.out; omega, by go_num, by go_num, s2.drew, gDrew hg2⟩
      case measure => simp [intOf] <;> omega
    · have hr := revK_end ps k j HE.out hlt
      have HR := Lib.hid hr
      clear hr
      go_wp2
      refine bodyPost_end (v := .tuple #[]) (by simp [results, Try.results80, go_sem]) rfl ⟨rfl, ?_, hg⟩
      rw [← HR.out]
      exact ho
end Go.Proofs.Ytjnllbmknblecaa
