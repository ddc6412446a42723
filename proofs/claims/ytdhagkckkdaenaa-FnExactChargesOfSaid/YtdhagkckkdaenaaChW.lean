/- Charges: both packages' walks. (Written by gen_chw.py.) -/
import Derived.Test.YtdhagkckkdaenaaChL
namespace Go.Proofs.Ytdhagkckkdaenaa
open Go.RowKit

theorem swap_mem {ys : List Int} {k j : Nat} (hk : k < ys.length) (hj : j < ys.length) (q : Int) : q ∈ (ys.set k (nth ys j)).set j (nth ys k) ↔ q ∈ ys := by
  have g : ∀ t, t < ys.length → ((ys.set k (nth ys j)).set j (nth ys k))[t]? = some (if t = j then nth ys k else if t = k then nth ys j else nth ys t) := by
    intro t ht
    rw [List.getElem?_set, List.length_set, List.getElem?_set]
    by_cases e1 : t = j
    · subst e1; simp [hj]
    · rw [if_neg (fun h => e1 h.symm), if_neg e1]
      by_cases e2 : t = k
      · subst e2; simp [hk]
      · rw [if_neg (fun h => e2 h.symm), if_neg e2, List.getElem?_eq_getElem ht, nth_eq ht]
  constructor
  · intro h
    obtain ⟨t, ht, e⟩ := List.mem_iff_getElem.1 h
    have ht' : t < ys.length := by simpa using ht
    have h1 := g t ht'
    rw [List.getElem?_eq_getElem ht, e] at h1
    injection h1 with h1
    rw [h1]
    split
    · rw [nth_eq hk]; exact List.getElem_mem hk
    · split
      · rw [nth_eq hj]; exact List.getElem_mem hj
      · rw [nth_eq ht']; exact List.getElem_mem ht'
  · intro h
    obtain ⟨t, ht, e⟩ := List.mem_iff_getElem.1 h
    have key : ∀ u, u < ys.length → (if u = j then nth ys k else if u = k then nth ys j else nth ys u) = q → q ∈ (ys.set k (nth ys j)).set j (nth ys k) := fun u hu hq => by
      have h1 := g u hu
      rw [hq] at h1
      exact List.mem_of_getElem? h1
    have e' : nth ys t = q := by rw [nth_eq ht]; exact e
    by_cases e1 : t = j
    · subst e1
      by_cases e2 : k = t
      · exact key k hk (by rw [if_pos e2]; rw [e2]; exact e')
      · exact key k hk (by rw [if_neg e2, if_pos rfl]; exact e')
    · by_cases e2 : t = k
      · subst e2
        exact key j hj (by rw [if_pos rfl]; exact e')
      · exact key t ht (by rw [if_neg e1, if_neg e2]; exact e')
theorem swap_len (ys : List Int) (k j : Nat) (x y : Int) : ((ys.set k x).set j y).length = ys.length := by simp
set_option maxRecDepth 20000 in
set_option maxHeartbeats 1000000 in
theorem reverseI_c (B g c : Nat) (xs : List Int) (w : World) (ho : Own w B (some ⟨g, 0, none⟩) c xs) (hn : 1 ≤ xs.length) (hx : xs.length ≤ 16777216) :
    Calls Try.prog 78 #[.slice (some ⟨g, 0, none⟩) xs.length c] w fun e w' => ∃ ys : List Int, e = .returned (.tuple #[]) ∧ Own w' B (some ⟨g, 0, none⟩) c ys ∧ ys.length = xs.length ∧ (∀ q, q ∈ ys ↔ q ∈ xs) ∧ w.grownBy w' (some g) := by
  go_enter Try.func78, Try.ntmps78
  go_wp2
  go_loopw [2, 3] (fun s t wr => ∃ (k j : Nat) (ys : List Int), k + j + 1 = xs.length ∧ s = .int .i64 k ∧ t = .int .i64 j ∧ ys.length = xs.length ∧ Own wr B (some ⟨g, 0, none⟩) c ys ∧ (∀ q, q ∈ ys ↔ q ∈ xs) ∧ w.grownBy wr (some g)) (fun _ t _ => (intOf t).toNat)
  case atStart => exact ⟨0, xs.length - 1, xs, by omega, rfl, by go_num, rfl, ho, fun q => Iff.rfl, World.grownBy.refl _ _⟩
  case round =>
    obtain ⟨k, j, ys, he, rfl, rfl, hl, ho, hm, hg⟩ := hrel
    obtain ⟨wo, rfl⟩ : ∃ wo : World, wo = wr := ⟨_, rfl⟩
    have HE := Lib.hid he
    have HL := Lib.hid hl
    have HM := Lib.hid hm
    have hbk : k < xs.length := by omega
    have hbj : j < xs.length := by omega
    clear he hl hm
    by_cases hlt : k < j
    · have fj := ho.cellN (k := j) (by rw [HL.out]; exact hbj)
      have fk := ho.cellN (k := k) (by rw [HL.out]; exact hbk)
      have i1 : (0 : Int) ≤ (k : Int) := by omega
      have i2 : (k : Int) < (xs.length : Int) := by omega
      have i3 : (0 : Int) ≤ (j : Int) := by omega
      have i4 : (j : Int) < (xs.length : Int) := by omega
      have s1 := ho.set k (nth ys j)
      have s2 := s1.1.set j (nth ys k)
      have hg2 := hg.trans (s1.2.trans s2.2)
      have s3 := s2.1
      have HM2 := Lib.hid (fun q => (swap_mem (by rw [HL.out]; exact hbk) (by rw [HL.out]; exact hbj) q).trans (HM.out q))
      have HL2 := Lib.hid ((swap_len ys k j (nth ys j) (nth ys k)).trans HL.out)
      clear s1 s2
      have zk := ho.frozen k
      have zj := ho.frozen j
      have n1 : ¬ k = j := by omega
      go_wp2
      refine tamed_region (S := fun w' => w'.cell? ⟨g, j, none⟩ = some (.int .i64 (nth ys j)) ∧ w'.cell? ⟨g, k, none⟩ = some (.int .i64 (nth ys k))) (fun t => t == 13 || t == 15) (by kernel_rfl) ?_
      have hS0 := And.intro fj fk
      refine tame0 (k := 0) ?_ rfl (by kernel_rfl) (by kernel_rfl) (by kernel_rfl) (fun _ _ _ h => h) (by kernel_rfl) (fun v => ?_) ?_
      rotate_left
      · (go_simp; all_goals rfl)
      simp only [Act.put, List.setIfInBounds_toArray]
      refine tame0 (k := 1) ?_ rfl (by kernel_rfl) (by kernel_rfl) (by kernel_rfl) (fun _ _ _ h => h) (by kernel_rfl) (fun v => ?_) ?_
      rotate_left
      · (go_simp; all_goals rfl)
      simp only [Act.put]
      refine tame0 (k := 2) ?_ rfl (by kernel_rfl) (by kernel_rfl) (by kernel_rfl) (fun _ _ _ h => h) (by kernel_rfl) (fun v => ?_) ?_
      rotate_left
      · (go_simp; all_goals rfl)
      simp only [Act.put]
      refine tame0 (k := 3) ?_ rfl (by kernel_rfl) (by kernel_rfl) (by kernel_rfl) (fun _ _ _ h => h) (by kernel_rfl) (fun v => ?_) ?_
      rotate_left
      · (go_simp; all_goals rfl)
      simp only [Act.put]
      refine tame0 (k := 4) ?_ rfl (by kernel_rfl) (by kernel_rfl) (by kernel_rfl) (fun _ _ _ h => h) (by kernel_rfl) (fun v => ?_) ?_
      rotate_left
      · (go_simp; all_goals rfl)
      simp only [Act.put]
      refine tame0 (k := 5) ?_ rfl (by kernel_rfl) (by kernel_rfl) (by kernel_rfl) (fun _ _ _ h => h) (by kernel_rfl) (fun v => ?_) ?_
      rotate_left
      · (go_simp; all_goals rfl)
      simp only [Act.put]
      refine tame0 (k := 6) ?_ rfl (by kernel_rfl) (by kernel_rfl) (by kernel_rfl) (fun _ _ _ h => h) (by kernel_rfl) (fun v => ?_) ?_
      rotate_left
      · (go_simp; all_goals rfl)
      simp only [Act.put]
      refine tame0 (k := 8) ?_ rfl (by kernel_rfl) (by kernel_rfl) (by kernel_rfl) (fun _ _ _ h => h) (by kernel_rfl) (fun v => ?_) ?_
      rotate_left
      · (go_simp; all_goals rfl)
      simp only [Act.put]
      refine tame0 (k := 9) ?_ rfl (by kernel_rfl) (by kernel_rfl) (by kernel_rfl) (fun _ _ _ h => h) (by kernel_rfl) (fun v => ?_) ?_
      rotate_left
      · (go_simp; all_goals rfl)
      simp only [Act.put]
      refine tame0 (k := 10) ?_ rfl (by kernel_rfl) (by kernel_rfl) (by kernel_rfl) (fun _ _ _ h => h) (by kernel_rfl) (fun v => ?_) ?_
      rotate_left
      · (go_simp; all_goals rfl)
      simp only [Act.put]
      refine tame (k := 7) ?_ rfl (by kernel_rfl) (by kernel_rfl) (by kernel_rfl) (by kernel_rfl) (fun _ _ _ h => h) (by kernel_rfl) hS0 (fun v hv => ?_) ?_
      rotate_left
      · (obtain ⟨g0, g1⟩ := hv; go_simp; all_goals rfl)
      simp only [Act.put]
      refine tame (k := 11) ?_ rfl (by kernel_rfl) (by kernel_rfl) (by kernel_rfl) (by kernel_rfl) (fun _ _ _ h => h) (by kernel_rfl) hS0 (fun v hv => ?_) ?_
      rotate_left
      · (obtain ⟨g0, g1⟩ := hv; go_simp; all_goals rfl)
      simp only [Act.put]
      refine tame0 (k := 12) ?_ rfl (by kernel_rfl) (by kernel_rfl) (by kernel_rfl) (fun _ _ _ h => h) (by kernel_rfl) (fun v => ?_) ?_
      rotate_left
      · (go_simp; all_goals rfl)
      simp only [Act.put]
      clear hS0
      refine tame_one (k := 13) (by kernel_rfl) rfl (by kernel_rfl) ?_
      go_simp
      refine tame0 (k := 14) ?_ rfl (by kernel_rfl) (by kernel_rfl) (by kernel_rfl) (fun _ _ _ h => h) (by kernel_rfl) (fun v => ?_) ?_
      rotate_left
      · (go_simp; all_goals rfl)
      simp only [Act.put, List.setIfInBounds_toArray]
      refine tame_one (k := 15) (by kernel_rfl) rfl (by kernel_rfl) ?_
      go_simp
      refine tame_end (by kernel_rfl) ?_
      clear fj fk zk zj
      go_wp2
      go_roundw
      case rel => exact ⟨k + 1, j - 1, _, by have := HE.out; omega, by go_num, by go_num, HL2.out, s3.drew, HM2.out, ⟨hg2.os, hg2.tape, hg2.output, hg2.size, hg2.block⟩⟩
      case measure => simp [intOf] <;> omega
    · go_wp2
      refine bodyPost_end (v := .tuple #[]) (by simp [results, Try.results78, go_sem]) rfl ⟨ys, rfl, ho, HL.out, HM.out, hg⟩
theorem und_chain {P : List Int} (hp : ParOk P) {u y : Nat} : ∀ x, x < P.length → undB P u x = true → undB P y x = true → u < y → undB P u y = true := by
  intro x
  induction x using Nat.strongRecOn with
  | _ x ih =>
    intro hx hu hy hlt
    rcases Decidable.em (y = x) with rfl | hne
    · exact hu
    · have := rch_le hy
      obtain ⟨q, hq, hql⟩ := par_of hp (show y < x by omega) hx
      exact ih q hql (by omega) (und_par hp hq hql hu (by omega)) (und_par hp hq hql hy hne) hlt
theorem und_trans {P : List Int} (hp : ParOk P) {u y : Nat} : ∀ {x}, x < P.length → undB P u y = true → undB P y x = true → undB P u x = true := by
  intro x
  induction x using Nat.strongRecOn with
  | _ x ih =>
    intro hx hu hy
    rcases Decidable.em (y = x) with rfl | hne
    · exact hu
    · have h1 := rch_le hy
      have h2 := rch_le hu
      obtain ⟨q, hq, hql⟩ := par_of hp (show y < x by omega) hx
      have := ih q hql (by omega) hu (und_par hp hq hql hy hne)
      unfold undB at *
      rw [rch_step hq hql (by omega)]
      exact this
theorem und_zero {P : List Int} (hp : ParOk P) : ∀ x, x < P.length → undB P 0 x = true := by
  intro x
  induction x using Nat.strongRecOn with
  | _ x ih =>
    intro hx
    rcases Nat.eq_zero_or_pos x with rfl | h0
    · exact rch_self
    · obtain ⟨q, hq, hql⟩ := par_of hp h0 hx
      unfold undB
      rw [rch_step hq hql h0]
      exact ih q hql (by omega)
set_option maxRecDepth 20000 in
set_option maxHeartbeats 1000000 in
theorem way_c (A1 : Option Addr) (P : List Int) (c1 : Nat) (A2 : Option Addr) (n2 c2 : Nat) (x : Nat) (w : World) (h1 : Rd w A1 (ints P)) (hp : ParOk P) (hx : x < P.length) (hn : P.length ≤ 24) :
    Calls Try.prog 54 #[trV A1 P.length c1 A2 n2 c2, .int .i64 (x : Int)] w fun e w' => ∃ (A : Option Addr) (c : Nat) (s : List Int), e = .returned (.slice A s.length c) ∧ Own w' w.heap.size A c s ∧ (∀ q : Int, q ∈ s ↔ ∃ u : Nat, undB P u x = true ∧ q = (u : Int)) ∧ s.length ≤ 24 ∧ Below w.heap.size w w' := by
  have HB1 : Below w.heap.size w ((w.alloc (.cells #[.slice A1 P.length c1, .slice A2 n2 c2] 31)).alloc (.cells #[] 3)) := ((Below.refl _ _).alloc (Nat.le_refl _) _).alloc (by simp) _
  have bx := (Bx.new w (.slice A1 P.length c1) (.slice A2 n2 c2) 31).alloc (.cells #[] 3)
  have O0 := Own.lit0 (w.alloc (.cells #[.slice A1 P.length c1, .slice A2 n2 c2] 31)) (w.heap.size + 1) (by simp)
  have hm0 : ∀ q : Int, q ∈ ([] : List Int) ↔ ∃ u : Nat, undB P u x = true ∧ x + 1 ≤ u ∧ q = (u : Int) := fun q => ⟨fun h => (by cases h), fun ⟨u, h, h', _⟩ => by have := rch_le h; omega⟩
  go_enter Try.func54, Try.ntmps54
  have HM0 := Lib.hid hm0
  clear hm0
  go_wp2
  go_loopw [1, 5] (fun t s wr => ∃ (m : Nat) (j : Int) (A : Option Addr) (c : Nat) (xs : List Int), m ≤ P.length ∧ j + 1 = (m : Int) ∧ t = .int .i64 j ∧ s = .slice A xs.length c ∧ xs.length + m ≤ x + 1 ∧ (0 < m ∨ 0 < xs.length) ∧ (0 < m → undB P (m - 1) x = true) ∧ (∀ q : Int, q ∈ xs ↔ ∃ u : Nat, undB P u x = true ∧ m ≤ u ∧ q = (u : Int)) ∧ Own wr (w.heap.size + 1) A c xs ∧ Bx wr w.heap.size (.slice A1 P.length c1) (.slice A2 n2 c2) ∧ Below w.heap.size w wr) (fun t _ _ => (intOf t + 1).toNat)
  case atStart => exact ⟨x + 1, x, _, _, [], by omega, by omega, rfl, rfl, by simp, .inl (by omega), fun _ => rch_self, HM0.out, O0, bx, HB1⟩
  case round =>
    clear O0 bx HB1 HM0
    obtain ⟨wo, rfl⟩ : ∃ wo : World, wo = wr := ⟨_, rfl⟩
    obtain ⟨m, j, A, c, xs, hml, hj, rfl, rfl, hlen, hpos, hum, hmem, ho, hb, hB⟩ := hrel
    have HU := Lib.hid hum
    have HM := Lib.hid hmem
    clear hum hmem
    obtain ⟨f0, f1, f2, f3, f4⟩ := id hb
    rcases m with _ | y
    · obtain rfl : j = -1 := by omega
      have hpos' : 1 ≤ xs.length := by omega
      obtain ⟨g, rfl, hg1, hg2⟩ := ho.form hpos'
      clear hpos hj
      go_wp2_with fail
      refine (reverseI_c _ g c xs _ ho hpos' (by omega)).mono ?_
      rintro e w2 ⟨ys, rfl, o2, hl2, hm2, hgr⟩
      have HL := Lib.hid hl2
      have HMM : Hid (∀ q : Int, q ∈ ys ↔ ∃ u : Nat, undB P u x = true ∧ q = (u : Int)) := Lib.hid fun q => by
        rw [hm2, HM.out]
        constructor
        · rintro ⟨u, h1, _, h2⟩; exact ⟨u, h1, h2⟩
        · rintro ⟨u, h1, h2⟩; exact ⟨u, h1, Nat.zero_le _, h2⟩
      have HB2 := hB.grown hgr hB.size (fun k hk => by injection hk with hk; omega)
      clear hl2 hm2 hgr
      go_wp2
      go_ret
      exact ⟨_, c, ys, by rw [HL.out] <;> rfl, o2.mono (by omega), HMM.out, by rw [HL.out]; omega, HB2⟩
    · obtain rfl : j = (y : Int) := by omega
      clear hj hpos
      have hyl : y < P.length := by omega
      have i0 : (0 : Int) ≤ (y : Int) := by omega
      obtain ⟨a1, rfl, q1⟩ := (h1.below hB (Nat.le_refl _)).intN (k := y) hyl
      have i1 : (y : Int) < (P.length : Int) := by omega
      have hpar : ∃ mm : Nat, mm ≤ y ∧ nth P y + 1 = (mm : Int) ∧ (0 < mm → undB P (mm - 1) x = true) ∧ (∀ u : Nat, undB P u x = true → (mm ≤ u ↔ y ≤ u)) := by
        have hy := HU.out (by omega)
        rw [Nat.add_sub_cancel] at hy
        rcases Nat.eq_zero_or_pos y with rfl | h0
        · exact ⟨0, Nat.le_refl _, by rw [hp.zero]; rfl, fun h => by omega, fun u _ => Iff.rfl⟩
        · obtain ⟨p, hpp, hpl⟩ := par_of hp h0 hyl
          have hup : undB P p y = true := by
            unfold undB
            rw [rch_step hpp hpl hpl, rch_self]
            rfl
          refine ⟨p + 1, by omega, by rw [hpp]; omega, fun _ => ?_, fun u hu => ⟨fun h => ?_, fun h => by omega⟩⟩
          · rw [Nat.add_sub_cancel]
            exact und_trans hp hx hup hy
          · rcases Nat.lt_or_ge u y with hlt | hge
            · have h3 := und_par hp hpp hpl (und_chain hp x hx hu hy hlt) (by omega)
              have := rch_le h3
              omega
            · exact hge
      obtain ⟨mm, hmm1, hmm2, hmm3, hmm4⟩ := hpar
      have HN : Hid (∀ q : Int, q ∈ xs ++ [(y : Int)] ↔ ∃ u : Nat, undB P u x = true ∧ mm ≤ u ∧ q = (u : Int)) := Lib.hid fun q => by
        have hy := HU.out (by omega)
        rw [Nat.add_sub_cancel] at hy
        rw [List.mem_append, List.mem_singleton, HM.out]
        constructor
        · rintro (⟨u, h1, h2, h3⟩ | rfl)
          · exact ⟨u, h1, by omega, h3⟩
          · exact ⟨y, hy, by omega, rfl⟩
        · rintro ⟨u, h1, h2, h3⟩
          have := (hmm4 u h1).1 h2
          rcases Nat.eq_or_lt_of_le this with rfl | h4
          · exact .inr h3
          · exact .inl ⟨u, h1, by omega, h3⟩
      have HU2 := Lib.hid hmm3
      have HJ := Lib.hid hmm2
      clear hmm2 hmm3 hmm4
      go_wp2_with (at_builtin; refine wp_append1 _ _ _ rfl _ _ rfl (w.heap.size + 1) A _ c xs rfl rfl ho rfl (by omega) (by omega) ?_; intro A5 c5 w5 ho5 hg5 hb5; have hx5 := hb.grown hg5 (row_ne ho (by omega)); have HB5 := hB.grown hg5 hB.size (fun k hk => by have := ho.ge k hk; omega); have q5 := (h1.below HB5 (Nat.le_refl _)).intN (k := y) hyl; obtain ⟨a5, e5, q5⟩ := q5; injection e5 with e5; subst e5; clear hg5 hb5; obtain ⟨v0, v1, v2, v3, v4⟩ := id hx5)
      go_roundw
      case rel => exact ⟨mm, nth P y, A5, c5, _, by omega, HJ.out, rfl, by rw [List.length_append]; rfl, by rw [List.length_append]; simp; omega, .inr (by rw [List.length_append]; simp), HU2.out, HN.out, ho5, hx5, HB5⟩
      case measure => have := HJ.out; simp [intOf] <;> omega
theorem cg_fr {P W F : List Int} {a b : Int} (h : ArmAB P W F a b) {x : Nat} (hx : x < P.length) : frP (cgX P W F a b x) = true := by
  cases he : endB P x
  · obtain ⟨u, h1, _, h3⟩ := cg_mem h x hx he
    rw [h3]
    exact idx_fr h h1
  · rw [cgX_end he]
    exact idx_fr h hx
set_option maxRecDepth 20000 in
set_option maxHeartbeats 2000000 in
theorem l8Charges_c (A1 : Option Addr) (P : List Int) (c1 : Nat) (A2 : Option Addr) (W : List Int) (c2 : Nat) (A3 : Option Addr) (F : List Int) (c3 : Nat) (a b : Int) (hk : ArmAB P W F a b) (w : World) (h : RdM w A1 P A2 W A3 F) :
    Calls Try.prog 52 #[mkV A1 P.length c1 A2 W.length c2 A3 F.length c3, .int .i64 a, .int .i64 b] w fun e w' => ∃ g c, e = .returned (.slice (some ⟨g, 0, none⟩) P.length c) ∧ OwnP w' w.heap.size (some ⟨g, 0, none⟩) c (cgL P W F a b) ∧ Below w.heap.size w w' := by
  have hok := hk.arm
  have hn1 := hok.tree.n1
  have hn9 := hok.n9
  have hpar := hok.tree.par
  have HWL := Lib.hid hok.tree.len
  have HFR := Lib.hid (fun z (hz : z < P.length) => frP_iff.1 (idx_fr hk hz))
  have HCR := Lib.hid (fun z (hz : z < P.length) => frP_iff.1 (cg_fr hk hz))
  obtain ⟨a2, rfl, _⟩ := h.r2.intN (k := 0) (by rw [HWL.out]; omega)
  obtain ⟨a1, rfl, _⟩ := h.r1.intN (k := 0) (by omega)
  have HB1 : Below w.heap.size w (w.alloc (.cells #[.slice (some a1) P.length c1, .slice (some a2) W.length c2, .slice A3 F.length c3] 33)) := (Below.refl _ _).alloc (Nat.le_refl _) _
  have bx := Bx3.new w (.slice (some a1) P.length c1) (.slice (some a2) W.length c2) (.slice A3 F.length c3) 33
  go_enter Try.func52, Try.ntmps52
  go_wp2_with fail
  refine (l8Index_c (some a1) P c1 (some a2) W c2 A3 F c3 a b hk _ (h.below HB1 (Nat.le_refl _))).mono ?_
  rintro e w2 ⟨g, c, rfl, ho, hb2⟩
  have szz : w.heap.size + 1 ≤ (w.alloc (.cells #[.slice (some a1) P.length c1, .slice (some a2) W.length c2, .slice A3 F.length c3] 33)).heap.size := by simp
  have R0 := PrR.mk (w := w) (ho.mono szz) (bx.below hb2) (bUp HB1 hb2 HB1.size)
  rw [← cgM_one] at R0
  clear ho hb2 bx HB1 szz
  go_wp2
  go_loopw [8] (fun t wr => ∃ k : Nat, 1 ≤ k ∧ k ≤ P.length ∧ t = .int .i64 (k : Int) ∧ PrR w wr g c (cgM P W F a b k) (.slice (some a1) P.length c1) (.slice (some a2) W.length c2) (.slice A3 F.length c3)) (fun t _ => P.length - (intOf t).toNat)
  case atStart => exact ⟨1, Nat.le_refl _, hn1, rfl, R0⟩
  case round =>
    clear R0
    obtain ⟨k, hk1, hkl, rfl, R⟩ := hrel
    obtain ⟨v, rfl⟩ : ∃ v : World, v = wr := ⟨_, rfl⟩
    by_cases hlt : k < P.length
    · obtain ⟨p, hpk, hpl⟩ := par_of hpar (show 0 < k by omega) hlt
      obtain ⟨aq, eq, q1⟩ := (h.below R.hb (Nat.le_refl _)).r1.intN (k := k) hlt
      injection eq with eq
      subst eq
      rw [hpk] at q1
      obtain ⟨aq, eq, q2⟩ := (h.below R.hb (Nat.le_refl _)).r2.intN (k := k) (by rw [HWL.out]; exact hlt)
      injection eq with eq
      subst eq
      obtain ⟨f0, f1, f2, fz⟩ := id R.b
      have j1 : (k : Int) < (W.length : Int) := by rw [HWL.out]; omega
      have j0 : (0 : Int) ≤ (k : Int) := by omega
      have j2 : (k : Int) < (P.length : Int) := by omega
      have j3 : (p : Int) < (P.length : Int) := by omega
      have j4 : (0 : Int) ≤ (p : Int) := by omega
      have HML := Lib.hid (cgM_len (P := P) (W := W) (F := F) (a := a) (b := b) k)
      cases he : endB P k
      · have ew := neB_wt hok hlt he
        obtain ⟨cp0, cp1⟩ := R.o.cells (k := p) (by rw [HML.out]; omega)
        obtain ⟨ck0, ck1⟩ := R.o.cells (k := k) (by rw [HML.out]; exact hlt)
        change v.cell? ⟨g, p * 2, none⟩ = some (.int .i64 (nP (cgM P W F a b k) p).1) at cp0
        change v.cell? ⟨g, p * 2 + 1, none⟩ = some (.int .i64 (nP (cgM P W F a b k) p).2) at cp1
        change v.cell? ⟨g, k * 2, none⟩ = some (.int .i64 (nP (cgM P W F a b k) k).1) at ck0
        change v.cell? ⟨g, k * 2 + 1, none⟩ = some (.int .i64 (nP (cgM P W F a b k) k).2) at ck1
        rw [cgM_nP (by omega), if_pos hpl] at cp0 cp1
        rw [cgM_nP hlt, if_neg (by omega)] at ck0 ck1
        have gl := (R.o.ltk g rfl)
        have g1 := HCR.out p (by omega)
        have g2 := HFR.out k hlt
        obtain ⟨Q, hQ⟩ : ∃ Q, Q = lessP (cgX P W F a b p) (idxP P W F a b k) := ⟨_, rfl⟩
        have HX : Hid (cgX P W F a b k = if Q = true then cgX P W F a b p else idxP P W F a b k) := Lib.hid (by rw [hQ]; exact cgX_in hpar hlt (by omega) he hpk)
        have HQ := Lib.hid hQ.symm
        clear hQ he hpk
        go_upto_region 6 with fail
        have hd1 : Below v.heap.size v v.drew := Below.drew (Below.refl _ _)
        have SK1 : Hid (∀ w', Below v.heap.size v w' → w'.cell? ⟨w.heap.size, 0, none⟩ = some (.slice (some a1) P.length c1) ∧ w'.cell? ⟨w.heap.size, 1, none⟩ = some (.slice (some a2) W.length c2) ∧ w'.cell? (a2.add k) = some (.int .i64 (nth W k)) ∧ w'.cell? ⟨g, p * 2, none⟩ = some (.int .i64 (cgX P W F a b p).1) ∧ w'.cell? ⟨g, p * 2 + 1, none⟩ = some (.int .i64 (cgX P W F a b p).2) ∧ w'.cell? ⟨g, k * 2, none⟩ = some (.int .i64 (idxP P W F a b k).1) ∧ w'.cell? ⟨g, k * 2 + 1, none⟩ = some (.int .i64 (idxP P W F a b k).2)) := Lib.hid fun w' HV => ⟨(HV.cell (p := ⟨w.heap.size, 0, none⟩) fz).trans f0, (HV.cell (p := ⟨w.heap.size, 1, none⟩) fz).trans f1, (HV.cell (cell_lt q2)).trans q2, (HV.cell (p := ⟨g, p * 2, none⟩) gl).trans cp0, (HV.cell (p := ⟨g, p * 2 + 1, none⟩) gl).trans cp1, (HV.cell (p := ⟨g, k * 2, none⟩) gl).trans ck0, (HV.cell (p := ⟨g, k * 2 + 1, none⟩) gl).trans ck1⟩
        clear f0 f1 q2 cp0 cp1 ck0 ck1
        have hS1_0 := SK1.out _ hd1
        refine tamed_region (S := fun w' => w'.cell? ⟨w.heap.size, 0, none⟩ = some (.slice (some a1) P.length c1) ∧ w'.cell? ⟨w.heap.size, 1, none⟩ = some (.slice (some a2) W.length c2) ∧ w'.cell? (a2.add k) = some (.int .i64 (nth W k)) ∧ w'.cell? ⟨g, p * 2, none⟩ = some (.int .i64 (cgX P W F a b p).1) ∧ w'.cell? ⟨g, p * 2 + 1, none⟩ = some (.int .i64 (cgX P W F a b p).2) ∧ w'.cell? ⟨g, k * 2, none⟩ = some (.int .i64 (idxP P W F a b k).1) ∧ w'.cell? ⟨g, k * 2 + 1, none⟩ = some (.int .i64 (idxP P W F a b k).2)) (fun _ => false) (by kernel_rfl) ?_
        refine tame0 (k := 0) ?_ rfl (by kernel_rfl) (by kernel_rfl) (by kernel_rfl) (fun _ _ _ h => h) (by kernel_rfl) (fun v => ?_) ?_
        rotate_left
        · (go_simp; all_goals rfl)
        simp only [Act.put, List.setIfInBounds_toArray]
        refine tame0 (k := 1) ?_ rfl (by kernel_rfl) (by kernel_rfl) (by kernel_rfl) (fun _ _ _ h => h) (by kernel_rfl) (fun v => ?_) ?_
        rotate_left
        · (go_simp; all_goals rfl)
        simp only [Act.put]
        refine tame (k := 2) ?_ rfl (by kernel_rfl) (by kernel_rfl) (by kernel_rfl) (by kernel_rfl) (fun _ _ _ h => h) (by kernel_rfl) hS1_0 (fun v hv => ?_) ?_
        rotate_left
        · (obtain ⟨k1, k2, k3, k4, k5, k6, k7⟩ := hv; go_simp; all_goals rfl)
        simp only [Act.put]
        refine tame0 (k := 3) ?_ rfl (by kernel_rfl) (by kernel_rfl) (by kernel_rfl) (fun _ _ _ h => h) (by kernel_rfl) (fun v => ?_) ?_
        rotate_left
        · (go_simp; all_goals rfl)
        simp only [Act.put]
        refine tame0 (k := 4) ?_ rfl (by kernel_rfl) (by kernel_rfl) (by kernel_rfl) (fun _ _ _ h => h) (by kernel_rfl) (fun v => ?_) ?_
        rotate_left
        · (go_simp; all_goals rfl)
        simp only [Act.put]
        refine tame (k := 5) ?_ rfl (by kernel_rfl) (by kernel_rfl) (by kernel_rfl) (by kernel_rfl) (fun _ _ _ h => h) (by kernel_rfl) hS1_0 (fun v hv => ?_) ?_
        rotate_left
        · (obtain ⟨k1, k2, k3, k4, k5, k6, k7⟩ := hv; go_simp; all_goals rfl)
        simp only [Act.put]
        refine tame0 (k := 6) ?_ rfl (by kernel_rfl) (by kernel_rfl) (by kernel_rfl) (fun _ _ _ h => h) (by kernel_rfl) (fun v => ?_) ?_
        rotate_left
        · (go_simp; all_goals rfl)
        simp only [Act.put]
        refine tame0 (k := 7) ?_ rfl (by kernel_rfl) (by kernel_rfl) (by kernel_rfl) (fun _ _ _ h => h) (by kernel_rfl) (fun v => ?_) ?_
        rotate_left
        · (go_simp; all_goals rfl)
        simp only [Act.put]
        refine tame0 (k := 8) ?_ rfl (by kernel_rfl) (by kernel_rfl) (by kernel_rfl) (fun _ _ _ h => h) (by kernel_rfl) (fun v => ?_) ?_
        rotate_left
        · (go_simp; all_goals rfl)
        simp only [Act.put]
        refine tame0 (k := 9) ?_ rfl (by kernel_rfl) (by kernel_rfl) (by kernel_rfl) (fun _ _ _ h => h) (by kernel_rfl) (fun v => ?_) ?_
        rotate_left
        · (go_simp; all_goals rfl)
        simp only [Act.put]
        refine tame0 (k := 10) ?_ rfl (by kernel_rfl) (by kernel_rfl) (by kernel_rfl) (fun _ _ _ h => h) (by kernel_rfl) (fun v => ?_) ?_
        rotate_left
        · (go_simp; all_goals rfl)
        simp only [Act.put]
        refine tame (k := 11) ?_ rfl (by kernel_rfl) (by kernel_rfl) (by kernel_rfl) (by kernel_rfl) (fun _ _ _ h => h) (by kernel_rfl) hS1_0 (fun v hv => ?_) ?_
        rotate_left
        · (obtain ⟨k1, k2, k3, k4, k5, k6, k7⟩ := hv; go_simp; all_goals rfl)
        simp only [Act.put]
        refine tame0 (k := 12) ?_ rfl (by kernel_rfl) (by kernel_rfl) (by kernel_rfl) (fun _ _ _ h => h) (by kernel_rfl) (fun v => ?_) ?_
        rotate_left
        · (go_simp; all_goals rfl)
        simp only [Act.put]
        refine tame0 (k := 13) ?_ rfl (by kernel_rfl) (by kernel_rfl) (by kernel_rfl) (fun _ _ _ h => h) (by kernel_rfl) (fun v => ?_) ?_
        rotate_left
        · (go_simp; all_goals rfl)
        simp only [Act.put]
        refine tame0 (k := 14) ?_ rfl (by kernel_rfl) (by kernel_rfl) (by kernel_rfl) (fun _ _ _ h => h) (by kernel_rfl) (fun v => ?_) ?_
        rotate_left
        · (go_simp; all_goals rfl)
        simp only [Act.put]
        refine tame (k := 15) ?_ rfl (by kernel_rfl) (by kernel_rfl) (by kernel_rfl) (by kernel_rfl) (fun _ _ _ h => h) (by kernel_rfl) hS1_0 (fun v hv => ?_) ?_
        rotate_left
        · (obtain ⟨k1, k2, k3, k4, k5, k6, k7⟩ := hv; go_simp; all_goals rfl)
        simp only [Act.put]
        refine tame_one (k := 16) (by kernel_rfl) rfl (by kernel_rfl) ?_
        go_simp
        refine (l2Less_is _ _ _ _ Q HQ.out (by omega) (by omega) (by omega) (by omega) (by omega) (by omega) (by omega) (by omega) _).mono ?_
        rintro e w5 ⟨rfl, b5⟩
        have hd1_1 := bUp hd1 b5 (Nat.le_refl _)
        have hS1_1 := Lib.hid (SK1.out _ hd1_1)
        refine ⟨by first | exact hS1_1 | exact Hid.out hS1_1, ?_⟩
        refine tame_one (k := 17) (by kernel_rfl) rfl (by kernel_rfl) ?_
        go_simp
        refine ⟨by first | exact hS1_1 | exact Hid.out hS1_1, ?_⟩
        refine tame_end (by kernel_rfl) ?_
        have R5 := R.below ((Below.drew (Below.refl v.heap.size v)).trans b5)
        clear R SK1 hd1 hd1_1 hS1_0 hS1_1 b5 g1 g2 gl fz f2
        have HS := Lib.hid (cgM_step (P := P) (W := W) (F := F) (a := a) (b := b) k)
        cases Q
        · have HN := Lib.hid (cgM_same (P := P) (W := W) (F := F) (a := a) (b := b) (k := k) (by rw [HX.out]; rfl))
          go_wp2
          go_roundw
          case rel => exact ⟨k + 1, by omega, by omega, by go_num, by rw [HN.out]; exact R5⟩
          case measure => simp [intOf] <;> omega
        · have HX2 : Hid (cgX P W F a b k = ((cgX P W F a b p).1, (cgX P W F a b p).2)) := Lib.hid (by rw [HX.out]; rfl)
          obtain ⟨cp0, cp1⟩ := R5.o.cells (k := p) (by rw [HML.out]; omega)
          obtain ⟨ck0, ck1⟩ := R5.o.cells (k := k) (by rw [HML.out]; exact hlt)
          change w5.cell? ⟨g, p * 2, none⟩ = some (.int .i64 (nP (cgM P W F a b k) p).1) at cp0
          change w5.cell? ⟨g, p * 2 + 1, none⟩ = some (.int .i64 (nP (cgM P W F a b k) p).2) at cp1
          rw [cgM_nP (by omega), if_pos hpl] at cp0 cp1
          have z0 := R5.o.frozen (k * 2)
          have z1 := R5.o.frozen (k * 2 + 1)
          have R6 := R5.set (cgX P W F a b p).1 (cgX P W F a b p).2 (k := k) (by rw [HML.out]; exact hlt)
          rw [← HX2.out, HS.out] at R6
          clear R5
          go_wp2
          go_roundw
          case rel => exact ⟨k + 1, by omega, by omega, by go_num, R6⟩
          case measure => simp [intOf] <;> omega
      · have ew := neB_wt hok hlt he
        have HN := Lib.hid (cgM_same (W := W) (F := F) (a := a) (b := b) (cgX_end he))
        clear he hpk
        go_upto_region 6 with fail
        have hd2 : Below v.heap.size v v.drew := Below.drew (Below.refl _ _)
        have SK2 : Hid (∀ w', Below v.heap.size v w' → w'.cell? ⟨w.heap.size, 0, none⟩ = some (.slice (some a1) P.length c1) ∧ w'.cell? ⟨w.heap.size, 1, none⟩ = some (.slice (some a2) W.length c2) ∧ w'.cell? (a2.add k) = some (.int .i64 (nth W k))) := Lib.hid fun w' HV => ⟨(HV.cell (p := ⟨w.heap.size, 0, none⟩) fz).trans f0, (HV.cell (p := ⟨w.heap.size, 1, none⟩) fz).trans f1, (HV.cell (cell_lt q2)).trans q2⟩
        clear f0 f1 q2
        have hS2_0 := SK2.out _ hd2
        refine tamed_region (S := fun w' => w'.cell? ⟨w.heap.size, 0, none⟩ = some (.slice (some a1) P.length c1) ∧ w'.cell? ⟨w.heap.size, 1, none⟩ = some (.slice (some a2) W.length c2) ∧ w'.cell? (a2.add k) = some (.int .i64 (nth W k))) (fun _ => false) (by kernel_rfl) ?_
        refine tame0 (k := 0) ?_ rfl (by kernel_rfl) (by kernel_rfl) (by kernel_rfl) (fun _ _ _ h => h) (by kernel_rfl) (fun v => ?_) ?_
        rotate_left
        · (go_simp; all_goals rfl)
        simp only [Act.put, List.setIfInBounds_toArray]
        refine tame0 (k := 1) ?_ rfl (by kernel_rfl) (by kernel_rfl) (by kernel_rfl) (fun _ _ _ h => h) (by kernel_rfl) (fun v => ?_) ?_
        rotate_left
        · (go_simp; all_goals rfl)
        simp only [Act.put]
        refine tame (k := 2) ?_ rfl (by kernel_rfl) (by kernel_rfl) (by kernel_rfl) (by kernel_rfl) (fun _ _ _ h => h) (by kernel_rfl) hS2_0 (fun v hv => ?_) ?_
        rotate_left
        · (obtain ⟨k1, k2, k3⟩ := hv; go_simp; all_goals rfl)
        simp only [Act.put]
        refine tame0 (k := 3) ?_ rfl (by kernel_rfl) (by kernel_rfl) (by kernel_rfl) (fun _ _ _ h => h) (by kernel_rfl) (fun v => ?_) ?_
        rotate_left
        · (go_simp; all_goals rfl)
        simp only [Act.put]
        refine tame0 (k := 4) ?_ rfl (by kernel_rfl) (by kernel_rfl) (by kernel_rfl) (fun _ _ _ h => h) (by kernel_rfl) (fun v => ?_) ?_
        rotate_left
        · (go_simp; all_goals rfl)
        simp only [Act.put]
        refine tame (k := 5) ?_ rfl (by kernel_rfl) (by kernel_rfl) (by kernel_rfl) (by kernel_rfl) (fun _ _ _ h => h) (by kernel_rfl) hS2_0 (fun v hv => ?_) ?_
        rotate_left
        · (obtain ⟨k1, k2, k3⟩ := hv; go_simp; all_goals rfl)
        simp only [Act.put]
        refine tame0 (k := 6) ?_ rfl (by kernel_rfl) (by kernel_rfl) (by kernel_rfl) (fun _ _ _ h => h) (by kernel_rfl) (fun v => ?_) ?_
        rotate_left
        · (go_simp; all_goals rfl)
        simp only [Act.put]
        refine tame0 (k := 7) ?_ rfl (by kernel_rfl) (by kernel_rfl) (by kernel_rfl) (fun _ _ _ h => h) (by kernel_rfl) (fun v => ?_) ?_
        rotate_left
        · (go_simp; all_goals rfl)
        simp only [Act.put]
        refine tame_no (k := 8) rfl (by kernel_rfl) (by kernel_rfl) (by kernel_rfl) (fun _ _ _ h => h) (by kernel_rfl) ?_
        simp only [Act.put]
        refine tame_no (k := 9) rfl (by kernel_rfl) (by kernel_rfl) (by kernel_rfl) (fun _ _ _ h => h) (by kernel_rfl) ?_
        simp only [Act.put]
        refine tame_no (k := 10) rfl (by kernel_rfl) (by kernel_rfl) (by kernel_rfl) (fun _ _ _ h => h) (by kernel_rfl) ?_
        simp only [Act.put]
        refine tame_no (k := 11) rfl (by kernel_rfl) (by kernel_rfl) (by kernel_rfl) (fun _ _ _ h => h) (by kernel_rfl) ?_
        simp only [Act.put]
        refine tame_no (k := 12) rfl (by kernel_rfl) (by kernel_rfl) (by kernel_rfl) (fun _ _ _ h => h) (by kernel_rfl) ?_
        simp only [Act.put]
        refine tame_no (k := 13) rfl (by kernel_rfl) (by kernel_rfl) (by kernel_rfl) (fun _ _ _ h => h) (by kernel_rfl) ?_
        simp only [Act.put]
        refine tame_no (k := 14) rfl (by kernel_rfl) (by kernel_rfl) (by kernel_rfl) (fun _ _ _ h => h) (by kernel_rfl) ?_
        simp only [Act.put]
        refine tame_no (k := 15) rfl (by kernel_rfl) (by kernel_rfl) (by kernel_rfl) (fun _ _ _ h => h) (by kernel_rfl) ?_
        simp only [Act.put]
        refine tame_no (k := 16) rfl (by kernel_rfl) (by kernel_rfl) (by kernel_rfl) (fun _ _ _ h => h) (by kernel_rfl) ?_
        simp only [Act.put]
        refine tame0 (k := 17) ?_ rfl (by kernel_rfl) (by kernel_rfl) (by kernel_rfl) (fun _ _ _ h => h) (by kernel_rfl) (fun v => ?_) ?_
        rotate_left
        · (go_simp; all_goals rfl)
        simp only [Act.put]
        refine tame_end (by kernel_rfl) ?_
        go_simp
        have R5 := R.below (Below.drew (Below.refl v.heap.size v))
        clear R SK2 hd2 hS2_0 fz f2
        go_wp2_with fail
        go_roundw
        case rel => exact ⟨k + 1, by omega, by omega, by go_num, by rw [HN.out]; exact R5⟩
        case measure => simp [intOf] <;> omega
    · obtain rfl : k = P.length := by omega
      rw [cgM_all] at R
      have HLL := Lib.hid (cgL_len (P := P) (W := W) (F := F) (a := a) (b := b))
      go_wp2
      go_ret
      exact ⟨_, _, rfl, R.o.mono (by omega), R.hb⟩
end Go.Proofs.Ytdhagkckkdaenaa
