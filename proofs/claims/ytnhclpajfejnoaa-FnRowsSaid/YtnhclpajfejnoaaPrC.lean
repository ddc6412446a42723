/- All prices at a node: the reference's walk. (Written by gen_prc.py.) -/
import Derived.Test.YtnhclpajfejnoaaPrW
import Derived.Test.YtnhclpajfejnoaaTrA
import Derived.Test.YtnhclpajfejnoaaMk2
import Derived.Deep.CutRange
namespace Go.Proofs.Ytnhclpajfejnoaa
open Go.RowKit

/-- While the list is built: the list, the children, the market's box. -/
structure PcR (w wr : World) (g c : Nat) (L : List (Int × Int)) (Ak : Option Addr) (ck : Nat) (K : List Int) (x y z : Value) : Prop where
  o : OwnP wr (w.heap.size + 1) (some ⟨g, 0, none⟩) c L
  k : Own wr (w.heap.size + 1) Ak ck K
  b : Bx3 wr w.heap.size x y z
  hb : Below w.heap.size w wr
  d : blk Ak ≠ some g
theorem PcR.below {w wr w' : World} {g c ck : Nat} {L : List (Int × Int)} {Ak : Option Addr} {K : List Int} {x y z : Value} (R : PcR w wr g c L Ak ck K x y z) (h : Below wr.heap.size wr w') : PcR w w' g c L Ak ck K x y z :=
  ⟨R.o.below h, R.k.below h, R.b.below h, bUp R.hb h R.hb.size, R.d⟩
theorem PcR.push {w wr w' : World} {g c ck g2 c2 : Nat} {L L2 : List (Int × Int)} {Ak : Option Addr} {K : List Int} {x y z : Value} (R : PcR w wr g c L Ak ck K x y z) (o : OwnP w' (w.heap.size + 1) (some ⟨g2, 0, none⟩) c2 L2) (hg : wr.grownBy w' (blk (some ⟨g, 0, none⟩))) (hx : some g2 = blk (some ⟨g, 0, none⟩) ∨ g2 = wr.heap.size) : PcR w w' g2 c2 L2 Ak ck K x y z := by
  have hge : w.heap.size + 1 ≤ g := R.o.ge g rfl
  refine ⟨o, R.k.grown hg (.inr R.d), R.b.grownR hg (by simp [blk]; omega), R.hb.grown hg R.hb.size (fun k hk => by simp [blk] at hk; omega), ?_⟩
  rcases hx with h | h
  · have : g2 = g := by simpa [blk] using h
    rw [this]
    exact R.d
  · rw [h]
    intro e
    have := R.k.ltk _ e
    omega
theorem PcR.lt {w wr : World} {g c ck : Nat} {L : List (Int × Int)} {Ak : Option Addr} {K : List Int} {x y z : Value} (R : PcR w wr g c L Ak ck K x y z) : w.heap.size + 1 ≤ wr.heap.size := by have := R.b.2.2.2; omega
theorem price_bd {F : List Int} (h : allB F 0 20 = true) (i : Nat) : 0 ≤ nth F i ∧ nth F i ≤ 20 := by
  rcases Nat.lt_or_ge i F.length with hi | hi
  · exact allB_nth h hi
  · rw [nth_big hi]; omega
theorem chB_len (P F : List Int) (out : List (Int × Int)) (x : Nat) (a : Int) (k : Nat) : (chB P F out x a k).length ≤ k := by
  induction k with
  | zero => simp [chB]
  | succ k ih =>
    rcases Nat.lt_or_ge k (kids P (x : Int)).length with h | h
    · rw [chB_succ h, List.length_append]
      split
      · simp; omega
      · simp; omega
    · unfold chB at *
      rw [List.take_of_length_le h] at ih
      rw [List.take_of_length_le (by omega)]
      omega
theorem chT_len (P F : List Int) (out : List (Int × Int)) (x : Nat) (hk : (kids P (x : Int)).length ≤ 24) (i : Nat) : (chT P F out x i).length ≤ 25 * i := by
  induction i with
  | zero => simp [chT]
  | succ i ih =>
    rcases Nat.lt_or_ge i (kids P (x : Int)).length with h | h
    · rw [chT_succ h, List.length_append, List.length_append]
      have h1 := chB_len P F out x (nth (kids P (x : Int)) i) (kids P (x : Int)).length
      have h2 : (chS_ F out x (nth (kids P (x : Int)) i)).length ≤ 1 := by unfold chS_; split <;> simp
      omega
    · unfold chT at *
      rw [List.take_of_length_le h] at ih
      rw [List.take_of_length_le (by omega)]
      omega
theorem nP_pair (l : List (Int × Int)) (k : Nat) : nP l k = (pT l k, pB l k) := rfl

theorem kid_at' {P : List Int} (hp : ParOk P) {x i : Nat} (hi : i < (kids P (x : Int)).length) : ∃ y : Nat, nth (kids P (x : Int)) i = (y : Int) ∧ x < y ∧ y < P.length ∧ nth P y = (x : Int) := by
  rw [nth_eq hi]
  have hm : (kids P (x : Int))[i] ∈ kids P (x : Int) := List.getElem_mem hi
  have h1 := kids_mem hp hm
  obtain ⟨j, h2, h3, h4⟩ := mem_kidTo.1 hm
  rw [h4] at h1 ⊢
  exact ⟨j, rfl, by omega, h2, h3⟩

def chM (P F : List Int) (out : List (Int × Int)) (x k m : Nat) : List (Int × Int) := (chT P F out x k ++ chS_ F out x (nth (kids P (x : Int)) k)) ++ chB P F out x (nth (kids P (x : Int)) k) m
section
variable {P F : List Int} {out : List (Int × Int)} {x k m y z : Nat}
theorem chM_same (hy : nth (kids P (x : Int)) k = (y : Int)) (h : nth F y = nth F x) : chM P F out x k 0 = chT P F out x k ++ [nP out y] := by
  rw [chM, chB_zero, List.append_nil, hy, chS_, Int.toNat_natCast, if_pos h]
theorem chM_diff (hy : nth (kids P (x : Int)) k = (y : Int)) (h : ¬ nth F y = nth F x) : chM P F out x k 0 = chT P F out x k := by
  rw [chM, chB_zero, List.append_nil, hy, chS_, Int.toNat_natCast, if_neg h, List.append_nil]
theorem chM_yes (hy : nth (kids P (x : Int)) k = (y : Int)) (hm : m < (kids P (x : Int)).length) (hz : nth (kids P (x : Int)) m = (z : Int)) (h1 : nth F y < nth F x) (h2 : nth F x < nth F z) : chM P F out x k (m + 1) = chM P F out x k m ++ [btw F out x y z] := by
  rw [chM, chM, chB_succ hm, hy, hz, Int.toNat_natCast, Int.toNat_natCast, if_pos ⟨h1, h2⟩, List.append_assoc (chT P F out x k ++ chS_ F out x (y : Int))]
theorem chM_no (hy : nth (kids P (x : Int)) k = (y : Int)) (hm : m < (kids P (x : Int)).length) (hz : nth (kids P (x : Int)) m = (z : Int)) (h : ¬ (nth F y < nth F x ∧ nth F x < nth F z)) : chM P F out x k (m + 1) = chM P F out x k m := by
  rw [chM, chM, chB_succ hm, hy, hz, Int.toNat_natCast, Int.toNat_natCast, if_neg h, List.append_nil]
theorem chM_all (hk : k < (kids P (x : Int)).length) : chM P F out x k (kids P (x : Int)).length = chT P F out x (k + 1) := by rw [chM, chT_succ hk]
end
theorem chM_len (P F : List Int) (out : List (Int × Int)) (x : Nat) (hk : (kids P (x : Int)).length ≤ 24) (k m : Nat) (hkl : k < (kids P (x : Int)).length) (hml : m < (kids P (x : Int)).length) : (chM P F out x k m).length ≤ 1000 := by
  have h1 := chT_len P F out x hk k
  have h2 := chB_len P F out x (nth (kids P (x : Int)) k) m
  have h3 : (chS_ F out x (nth (kids P (x : Int)) k)).length ≤ 1 := by unfold chS_; split <;> simp
  rw [chM, List.length_append, List.length_append]
  omega

set_option maxRecDepth 20000 in
set_option maxHeartbeats 4000000 in
theorem l6Choices_c (A1 : Option Addr) (P : List Int) (c1 : Nat) (A2 : Option Addr) (n2 c2 : Nat) (A3 : Option Addr) (F : List Int) (c3 : Nat) (go co B : Nat) (out : List (Int × Int)) (x : Nat) (w : World) (h1 : Rd w A1 (ints P)) (h3 : Rd w A3 (ints F)) (hO : OwnP w B (some ⟨go, 0, none⟩) co out)
    (hp : ParOk P) (hn : P.length ≤ 24) (hF : F.length = P.length) (hF20 : allB F 0 20 = true) (hx : x < P.length) (hi : PrInv P (x + 1) out) :
    Calls Try.prog 127 #[mkV A1 P.length c1 A2 n2 c2 A3 F.length c3, .slice (some ⟨go, 0, none⟩) P.length co, .int .i64 (x : Int)] w (RowP w (chL P F out x)) := by
  have HB0 : Below w.heap.size w (w.alloc (.cells #[.slice A1 P.length c1, .slice A2 n2 c2, .slice A3 F.length c3] 28)) := (Below.refl _ _).alloc (Nat.le_refl _) _
  have bx0 := Bx3.new w (.slice A1 P.length c1) (.slice A2 n2 c2) (.slice A3 F.length c3) 28
  have HFL := Lib.hid hF
  have HOL := Lib.hid hi.len
  have hkl24 : (kids P (x : Int)).length ≤ 24 := Nat.le_trans (kidTo_len P x P.length) hn
  obtain ⟨a3, rfl, _⟩ := h3.intN (k := x) (by omega)
  have j0 : (0 : Int) ≤ (x : Int) := by omega
  have j1 : (x : Int) < (F.length : Int) := by omega
  have HF9 : Hid (∀ y, y < P.length → (y : Int) < (F.length : Int)) := Lib.hid fun y hy => by omega
  clear hF
  go_enter Try.func127, Try.ntmps127
  go_wp2_with fail
  have O0 := OwnP.lit (w.alloc (.cells #[.slice A1 P.length c1, .slice A2 n2 c2, .slice (some a3) F.length c3] 28)) [] (by simp)
  rw [World.size_alloc] at O0
  have HB1 := HB0.alloc HB0.size (.cells #[] 40)
  have bx1 := bx0.alloc (.cells #[] 40)
  have O0 : OwnP ((w.alloc (.cells #[.slice A1 P.length c1, .slice A2 n2 c2, .slice (some a3) F.length c3] 28)).alloc (.cells #[] 40)) (w.heap.size + 1) (some ⟨w.heap.size + 1, 0, none⟩) 0 [] := O0
  generalize (w.alloc (.cells #[.slice A1 P.length c1, .slice A2 n2 c2, .slice (some a3) F.length c3] 28)).alloc (.cells #[] 40) = v1 at *
  refine (l2Kids_c A1 P c1 A2 n2 c2 x v1 (h1.below HB1 (Nat.le_refl _)) hp hx hn).mono ?_
  rintro e w2 ⟨Ak, ck, rfl, ok, b2⟩
  have R0 : PcR w w2 (w.heap.size + 1) 0 (chT P F out x 0) Ak ck (kids P (x : Int)) (.slice A1 P.length c1) (.slice A2 n2 c2) (.slice (some a3) F.length c3) :=
    ⟨O0.below b2, ok.mono (by have := bx1.2.2.2; omega), bx1.below b2, bUp HB1 b2 HB1.size, fun e => by have h1 := ok.ge (w.heap.size + 1) e; have h2 : w.heap.size + 1 < v1.heap.size := O0.ltk (w.heap.size + 1) rfl; omega⟩
  clear O0 ok b2 bx0 bx1 HB0 HB1
  go_wp2_with fail
  go_loopw [7, 9] (fun t i wr => ∃ (k g c : Nat), k ≤ (kids P (x : Int)).length ∧ i = .int .i64 (k : Int) ∧ t = .slice (some ⟨g, 0, none⟩) (chT P F out x k).length c ∧ PcR w wr g c (chT P F out x k) Ak ck (kids P (x : Int)) (.slice A1 P.length c1) (.slice A2 n2 c2) (.slice (some a3) F.length c3)) (fun _ i _ => (kids P (x : Int)).length - (intOf i).toNat)
  case atStart => exact ⟨0, w.heap.size + 1, 0, by omega, rfl, rfl, R0⟩
  case round =>
    clear R0
    obtain ⟨k, g, c, hkl, rfl, rfl, R⟩ := hrel
    obtain ⟨v, rfl⟩ : ∃ v : World, v = wr := ⟨_, rfl⟩
    by_cases hlt : k < (kids P (x : Int)).length
    · obtain ⟨gk, rfl, hgk, hgk2⟩ := R.k.form (by omega)
      obtain ⟨y, hy, hxy, hyl, hpy⟩ := kid_at' hp hlt
      have k1 : (k : Int) < ((kids P (x : Int)).length : Int) := by omega
      have k0 : (0 : Int) ≤ (k : Int) := by omega
      have y0 : (0 : Int) ≤ (y : Int) := by omega
      have y1 := HF9.out y hyl
      have y2 : (y : Int) < (P.length : Int) := by omega
      have HY := Lib.hid hy
      clear hpy hy
      go_upto_region 5 with fail
      have QK := R.k.cellN hlt
      rw [HY.out] at QK
      obtain ⟨ay, ey, qy⟩ := (h3.below R.hb (Nat.le_refl _)).intN (k := y) (by have := HFL.out; omega)
      cases ey
      obtain ⟨ax, ex, qx⟩ := (h3.below R.hb (Nat.le_refl _)).intN (k := x) (by have := HFL.out; omega)
      cases ex
      have hS0 : v.drew.cell? ⟨w.heap.size, 2, none⟩ = some (.slice (some a3) F.length c3) ∧ v.drew.cell? ⟨gk, k, none⟩ = some (.int .i64 (y : Int)) ∧ v.drew.cell? (a3.add y) = some (.int .i64 (nth F y)) ∧ v.drew.cell? (a3.add x) = some (.int .i64 (nth F x)) := ⟨R.b.2.2.1, QK, qy, qx⟩
      clear QK qy qx
      refine tamed_region (S := fun w' => w'.cell? ⟨w.heap.size, 2, none⟩ = some (.slice (some a3) F.length c3) ∧ w'.cell? ⟨gk, k, none⟩ = some (.int .i64 (y : Int)) ∧ w'.cell? (a3.add y) = some (.int .i64 (nth F y)) ∧ w'.cell? (a3.add x) = some (.int .i64 (nth F x))) (fun _ => false) (by kernel_rfl) ?_
      refine tame0 (k := 0) ?_ rfl (by kernel_rfl) (by kernel_rfl) (by kernel_rfl) (fun _ _ _ h => h) (by kernel_rfl) (fun v => ?_) ?_
      rotate_left
      · (go_simp; all_goals rfl)
      simp only [Act.put, List.setIfInBounds_toArray]
      refine tame (k := 1) ?_ rfl (by kernel_rfl) (by kernel_rfl) (by kernel_rfl) (by kernel_rfl) (fun _ _ _ h => h) (by kernel_rfl) hS0 (fun v hv => ?_) ?_
      rotate_left
      · (obtain ⟨k1, k2, k3, k4⟩ := hv; go_simp; all_goals rfl)
      simp only [Act.put]
      refine tame0 (k := 2) ?_ rfl (by kernel_rfl) (by kernel_rfl) (by kernel_rfl) (fun _ _ _ h => h) (by kernel_rfl) (fun v => ?_) ?_
      rotate_left
      · (go_simp; all_goals rfl)
      simp only [Act.put]
      refine tame0 (k := 3) ?_ rfl (by kernel_rfl) (by kernel_rfl) (by kernel_rfl) (fun _ _ _ h => h) (by kernel_rfl) (fun v => ?_) ?_
      rotate_left
      · (go_simp; all_goals rfl)
      simp only [Act.put]
      refine tame0 (k := 4) ?_ rfl (by kernel_rfl) (by kernel_rfl) (by kernel_rfl) (fun _ _ _ h => h) (by kernel_rfl) (fun v => ?_) ?_
      rotate_left
      · (go_simp; all_goals rfl)
      simp only [Act.put]
      refine tame (k := 5) ?_ rfl (by kernel_rfl) (by kernel_rfl) (by kernel_rfl) (by kernel_rfl) (fun _ _ _ h => h) (by kernel_rfl) hS0 (fun v hv => ?_) ?_
      rotate_left
      · (obtain ⟨k1, k2, k3, k4⟩ := hv; go_simp; all_goals rfl)
      simp only [Act.put]
      refine tame0 (k := 6) ?_ rfl (by kernel_rfl) (by kernel_rfl) (by kernel_rfl) (fun _ _ _ h => h) (by kernel_rfl) (fun v => ?_) ?_
      rotate_left
      · (go_simp; all_goals rfl)
      simp only [Act.put]
      refine tame (k := 7) ?_ rfl (by kernel_rfl) (by kernel_rfl) (by kernel_rfl) (by kernel_rfl) (fun _ _ _ h => h) (by kernel_rfl) hS0 (fun v hv => ?_) ?_
      rotate_left
      · (obtain ⟨k1, k2, k3, k4⟩ := hv; go_simp; all_goals rfl)
      simp only [Act.put]
      refine tame0 (k := 8) ?_ rfl (by kernel_rfl) (by kernel_rfl) (by kernel_rfl) (fun _ _ _ h => h) (by kernel_rfl) (fun v => ?_) ?_
      rotate_left
      · (go_simp; all_goals rfl)
      simp only [Act.put]
      refine tame (k := 9) ?_ rfl (by kernel_rfl) (by kernel_rfl) (by kernel_rfl) (by kernel_rfl) (fun _ _ _ h => h) (by kernel_rfl) hS0 (fun v hv => ?_) ?_
      rotate_left
      · (obtain ⟨k1, k2, k3, k4⟩ := hv; go_simp; all_goals rfl)
      simp only [Act.put]
      refine tame0 (k := 10) ?_ rfl (by kernel_rfl) (by kernel_rfl) (by kernel_rfl) (fun _ _ _ h => h) (by kernel_rfl) (fun v => ?_) ?_
      rotate_left
      · (go_simp; all_goals rfl)
      simp only [Act.put]
      refine tame0 (k := 11) ?_ rfl (by kernel_rfl) (by kernel_rfl) (by kernel_rfl) (fun _ _ _ h => h) (by kernel_rfl) (fun v => ?_) ?_
      rotate_left
      · (go_simp; all_goals rfl)
      simp only [Act.put]
      refine tame (k := 12) ?_ rfl (by kernel_rfl) (by kernel_rfl) (by kernel_rfl) (by kernel_rfl) (fun _ _ _ h => h) (by kernel_rfl) hS0 (fun v hv => ?_) ?_
      rotate_left
      · (obtain ⟨k1, k2, k3, k4⟩ := hv; go_simp; all_goals rfl)
      simp only [Act.put]
      refine tame0 (k := 13) ?_ rfl (by kernel_rfl) (by kernel_rfl) (by kernel_rfl) (fun _ _ _ h => h) (by kernel_rfl) (fun v => ?_) ?_
      rotate_left
      · (go_simp; all_goals rfl)
      simp only [Act.put]
      refine tame_end (by kernel_rfl) ?_
      clear hS0
      go_simp
      have R := R.below (w' := v.drew) (Below.drew (Below.refl _ _))
      obtain ⟨v2, hv2⟩ : ∃ v2 : World, v2 = v.drew := ⟨_, rfl⟩
      rw [← hv2] at R ⊢
      clear hv2
      go_upto_if 37 with fail
      go_cut [7] from 18 to 110 (fun s7 wx => ∃ (g c : Nat), s7 = .slice (some ⟨g, 0, none⟩) (chM P F out x k 0).length c ∧ PcR w wx g c (chM P F out x k 0) (some ⟨gk, 0, none⟩) ck (kids P (x : Int)) (.slice A1 P.length c1) (.slice A2 n2 c2) (.slice (some a3) F.length c3))
      case first =>
        have hTL := chT_len P F out x hkl24 k
        by_cases hs : nth F y = nth F x
        · have e1 : (nth F y == nth F x) = true := by simp [hs]
          have HS : Hid (chM P F out x k 0 = chT P F out x k ++ [nP out y]) := Lib.hid (chM_same HY.out hs)
          clear hs
          have QK := R.k.cellN hlt
          rw [HY.out] at QK
          have qo := (hO.below R.hb).cells (k := y) (by rw [HOL.out]; exact hyl)
          obtain ⟨qo1, qo2⟩ := qo
          have osrc := (OwnP.lit v2 [nP out y] (by simp)).src
          have hlt' := R.lt
          have Ra := R.below ((Below.refl _ _).alloc (Nat.le_refl _) (.cells #[.int .i64 (pT out y), .int .i64 (pB out y)] 40))
          go_wp2_with (at_builtin; refine wp_append_pairs _ rfl _ _ rfl (w.heap.size + 1) (some ⟨g, 0, none⟩) _ c (chT P F out x k) rfl rfl Ra.o _ 1 1 [nP out y] rfl rfl osrc (by simp; omega) Ra.lt (by simp) ?_; intro g2 c2' w5 ho5 hg5 hx5)
          have R5 := Ra.push ho5 hg5 hx5
          rw [← HS.out] at R5
          go_meet
          exact ⟨g2, c2', by rw [HS.out, List.length_append]; rfl, R5⟩
        · have e1 : (nth F y == nth F x) = false := by simp [hs]
          have HS : Hid (chM P F out x k 0 = chT P F out x k) := Lib.hid (chM_diff HY.out hs)
          clear hs
          go_wp2_with fail
          go_meet
          exact ⟨g, c, by rw [HS.out], by rw [HS.out]; exact R⟩
      case rest =>
        clear R
        obtain ⟨g, c, rfl, R⟩ := hcut
        go_wp2_with fail
        go_loopw [7, 10] (fun t i wr => ∃ (m g c : Nat), m ≤ (kids P (x : Int)).length ∧ i = .int .i64 (m : Int) ∧ t = .slice (some ⟨g, 0, none⟩) (chM P F out x k m).length c ∧ PcR w wr g c (chM P F out x k m) (some ⟨gk, 0, none⟩) ck (kids P (x : Int)) (.slice A1 P.length c1) (.slice A2 n2 c2) (.slice (some a3) F.length c3)) (fun _ i _ => (kids P (x : Int)).length - (intOf i).toNat)
        case atStart => exact ⟨0, g, c, by omega, rfl, rfl, R⟩
        case round =>
          clear R
          obtain ⟨m, g, c, hml, rfl, rfl, R⟩ := hrel
          obtain ⟨v, rfl⟩ : ∃ v : World, v = wr := ⟨_, rfl⟩
          by_cases hmt : m < (kids P (x : Int)).length
          · obtain ⟨z, hz, hxz, hzl, _⟩ := kid_at' hp hmt
            have m1 : (m : Int) < ((kids P (x : Int)).length : Int) := by omega
            have m0 : (0 : Int) ≤ (m : Int) := by omega
            have z0 : (0 : Int) ≤ (z : Int) := by omega
            have z1 := HF9.out z hzl
            have z2 : (z : Int) < (P.length : Int) := by omega
            have HZ := Lib.hid hz
            clear hz
            go_upto_region 10 with fail
            have QK := R.k.cellN hlt
            rw [HY.out] at QK
            obtain ⟨ay, ey, qy⟩ := (h3.below R.hb (Nat.le_refl _)).intN (k := y) (by have := HFL.out; omega)
            cases ey
            obtain ⟨ax, ex, qx⟩ := (h3.below R.hb (Nat.le_refl _)).intN (k := x) (by have := HFL.out; omega)
            cases ex
            have QM := R.k.cellN hmt
            rw [HZ.out] at QM
            obtain ⟨az, ez, qz⟩ := (h3.below R.hb (Nat.le_refl _)).intN (k := z) (by have := HFL.out; omega)
            cases ez
            have HS : Hid (v.drew.cell? ⟨w.heap.size, 2, none⟩ = some (.slice (some a3) F.length c3) ∧ v.drew.cell? ⟨gk, k, none⟩ = some (.int .i64 (y : Int)) ∧ v.drew.cell? (a3.add y) = some (.int .i64 (nth F y)) ∧ v.drew.cell? (a3.add x) = some (.int .i64 (nth F x)) ∧ v.drew.cell? ⟨gk, m, none⟩ = some (.int .i64 (z : Int)) ∧ v.drew.cell? (a3.add z) = some (.int .i64 (nth F z))) := Lib.hid ⟨R.b.2.2.1, QK, qy, qx, QM, qz⟩
            clear QK qy qx QM qz
            have hS0 := HS.out
            refine tamed_region (S := fun w' => w'.cell? ⟨w.heap.size, 2, none⟩ = some (.slice (some a3) F.length c3) ∧ w'.cell? ⟨gk, k, none⟩ = some (.int .i64 (y : Int)) ∧ w'.cell? (a3.add y) = some (.int .i64 (nth F y)) ∧ w'.cell? (a3.add x) = some (.int .i64 (nth F x)) ∧ w'.cell? ⟨gk, m, none⟩ = some (.int .i64 (z : Int)) ∧ w'.cell? (a3.add z) = some (.int .i64 (nth F z))) (fun _ => false) (by kernel_rfl) ?_
            refine tame0 (k := 0) ?_ rfl (by kernel_rfl) (by kernel_rfl) (by kernel_rfl) (fun _ _ _ h => h) (by kernel_rfl) (fun v => ?_) ?_
            rotate_left
            · (go_simp; all_goals rfl)
            simp only [Act.put, List.setIfInBounds_toArray]
            refine tame (k := 1) ?_ rfl (by kernel_rfl) (by kernel_rfl) (by kernel_rfl) (by kernel_rfl) (fun _ _ _ h => h) (by kernel_rfl) hS0 (fun v hv => ?_) ?_
            rotate_left
            · (obtain ⟨k1, k2, k3, k4, k5, k6⟩ := hv; go_simp; all_goals rfl)
            simp only [Act.put]
            refine tame0 (k := 2) ?_ rfl (by kernel_rfl) (by kernel_rfl) (by kernel_rfl) (fun _ _ _ h => h) (by kernel_rfl) (fun v => ?_) ?_
            rotate_left
            · (go_simp; all_goals rfl)
            simp only [Act.put]
            refine tame0 (k := 3) ?_ rfl (by kernel_rfl) (by kernel_rfl) (by kernel_rfl) (fun _ _ _ h => h) (by kernel_rfl) (fun v => ?_) ?_
            rotate_left
            · (go_simp; all_goals rfl)
            simp only [Act.put]
            refine tame0 (k := 4) ?_ rfl (by kernel_rfl) (by kernel_rfl) (by kernel_rfl) (fun _ _ _ h => h) (by kernel_rfl) (fun v => ?_) ?_
            rotate_left
            · (go_simp; all_goals rfl)
            simp only [Act.put]
            refine tame (k := 5) ?_ rfl (by kernel_rfl) (by kernel_rfl) (by kernel_rfl) (by kernel_rfl) (fun _ _ _ h => h) (by kernel_rfl) hS0 (fun v hv => ?_) ?_
            rotate_left
            · (obtain ⟨k1, k2, k3, k4, k5, k6⟩ := hv; go_simp; all_goals rfl)
            simp only [Act.put]
            refine tame0 (k := 6) ?_ rfl (by kernel_rfl) (by kernel_rfl) (by kernel_rfl) (fun _ _ _ h => h) (by kernel_rfl) (fun v => ?_) ?_
            rotate_left
            · (go_simp; all_goals rfl)
            simp only [Act.put]
            refine tame (k := 7) ?_ rfl (by kernel_rfl) (by kernel_rfl) (by kernel_rfl) (by kernel_rfl) (fun _ _ _ h => h) (by kernel_rfl) hS0 (fun v hv => ?_) ?_
            rotate_left
            · (obtain ⟨k1, k2, k3, k4, k5, k6⟩ := hv; go_simp; all_goals rfl)
            simp only [Act.put]
            refine tame0 (k := 8) ?_ rfl (by kernel_rfl) (by kernel_rfl) (by kernel_rfl) (fun _ _ _ h => h) (by kernel_rfl) (fun v => ?_) ?_
            rotate_left
            · (go_simp; all_goals rfl)
            simp only [Act.put]
            refine tame (k := 9) ?_ rfl (by kernel_rfl) (by kernel_rfl) (by kernel_rfl) (by kernel_rfl) (fun _ _ _ h => h) (by kernel_rfl) hS0 (fun v hv => ?_) ?_
            rotate_left
            · (obtain ⟨k1, k2, k3, k4, k5, k6⟩ := hv; go_simp; all_goals rfl)
            simp only [Act.put]
            refine tame0 (k := 10) ?_ rfl (by kernel_rfl) (by kernel_rfl) (by kernel_rfl) (fun _ _ _ h => h) (by kernel_rfl) (fun v => ?_) ?_
            rotate_left
            · (go_simp; all_goals rfl)
            simp only [Act.put]
            refine tame0 (k := 11) ?_ rfl (by kernel_rfl) (by kernel_rfl) (by kernel_rfl) (fun _ _ _ h => h) (by kernel_rfl) (fun v => ?_) ?_
            rotate_left
            · (go_simp; all_goals rfl)
            simp only [Act.put]
            refine tame0 (k := 12) ?_ rfl (by kernel_rfl) (by kernel_rfl) (by kernel_rfl) (fun _ _ _ h => h) (by kernel_rfl) (fun v => ?_) ?_
            rotate_left
            · (go_simp; all_goals rfl)
            simp only [Act.put]
            refine tame (k := 13) ?_ rfl (by kernel_rfl) (by kernel_rfl) (by kernel_rfl) (by kernel_rfl) (fun _ _ _ h => h) (by kernel_rfl) hS0 (fun v hv => ?_) ?_
            rotate_left
            · (obtain ⟨k1, k2, k3, k4, k5, k6⟩ := hv; go_simp; all_goals rfl)
            simp only [Act.put]
            refine tame0 (k := 14) ?_ rfl (by kernel_rfl) (by kernel_rfl) (by kernel_rfl) (fun _ _ _ h => h) (by kernel_rfl) (fun v => ?_) ?_
            rotate_left
            · (go_simp; all_goals rfl)
            simp only [Act.put]
            refine tame (k := 15) ?_ rfl (by kernel_rfl) (by kernel_rfl) (by kernel_rfl) (by kernel_rfl) (fun _ _ _ h => h) (by kernel_rfl) hS0 (fun v hv => ?_) ?_
            rotate_left
            · (obtain ⟨k1, k2, k3, k4, k5, k6⟩ := hv; go_simp; all_goals rfl)
            simp only [Act.put]
            clear hS0
            refine tame_one (k := 16) (by kernel_rfl) rfl (by kernel_rfl) ?_
            go_simp
            refine ⟨by first | exact HS.out, ?_⟩
            refine tame_one (k := 17) (by kernel_rfl) rfl (by kernel_rfl) ?_
            go_simp
            refine ⟨by first | exact HS.out, ?_⟩
            refine tame_end (by kernel_rfl) ?_
            clear HS
            have R := R.below (w' := v.drew) (Below.drew (Below.refl _ _))
            obtain ⟨v2, hv2⟩ : ∃ v2 : World, v2 = v.drew := ⟨_, rfl⟩
            rw [← hv2] at R ⊢
            clear hv2
            obtain ⟨f0, f1, f2, fz⟩ := id R.b
            obtain ⟨ax, ex, qx⟩ := (h3.below R.hb (Nat.le_refl _)).intN (k := x) (by have := HFL.out; omega)
            cases ex
            by_cases hA : nth F y < nth F x
            · by_cases hB : nth F x < nth F z
              · have HC := Lib.hid (chM_yes (out := out) HY.out hmt HZ.out hA hB)
                go_upto_region 12 with fail
                clear f0 f1 f2 qx
                have QK := R.k.cellN hlt
                rw [HY.out] at QK
                obtain ⟨ay, ey, qy⟩ := (h3.below R.hb (Nat.le_refl _)).intN (k := y) (by have := HFL.out; omega)
                cases ey
                obtain ⟨ax, ex, qx⟩ := (h3.below R.hb (Nat.le_refl _)).intN (k := x) (by have := HFL.out; omega)
                cases ex
                have QM := R.k.cellN hmt
                rw [HZ.out] at QM
                obtain ⟨az, ez, qz⟩ := (h3.below R.hb (Nat.le_refl _)).intN (k := z) (by have := HFL.out; omega)
                cases ez
                have OB := hO.below R.hb
                have fy := hi.fr y hyl (.inl (by omega))
                have fz2 := hi.fr z hzl (.inl (by omega))
                have qoy := OB.cells (k := y) (by rw [HOL.out]; exact hyl)
                have qoz := OB.cells (k := z) (by rw [HOL.out]; exact hzl)
                have hgo : go < v2.heap.size := OB.ltk go rfl
                have hgk' : gk < v2.heap.size := R.k.ltk gk rfl
                have hd : Below v2.heap.size v2 v2.drew := Below.drew (Below.refl _ _)
                have F2 := R.b.2.2.1
                have SK : Hid (∀ w', Below v2.heap.size v2 w' → (w'.cell? ⟨w.heap.size, 2, none⟩ = some (.slice (some a3) F.length c3) ∧ w'.cell? ⟨gk, k, none⟩ = some (.int .i64 (y : Int)) ∧ w'.cell? (a3.add y) = some (.int .i64 (nth F y)) ∧ w'.cell? (a3.add x) = some (.int .i64 (nth F x)) ∧ w'.cell? ⟨gk, m, none⟩ = some (.int .i64 (z : Int)) ∧ w'.cell? (a3.add z) = some (.int .i64 (nth F z)) ∧ (w'.cell? ⟨go, y * 2, none⟩ = some (.int .i64 (pT out y)) ∧ w'.cell? ⟨go, y * 2 + 1, none⟩ = some (.int .i64 (pB out y))) ∧ w'.cell? ⟨go, z * 2, none⟩ = some (.int .i64 (pT out z)) ∧ w'.cell? ⟨go, z * 2 + 1, none⟩ = some (.int .i64 (pB out z)))) :=
                  Lib.hid fun w' HV => ⟨(HV.cell (p := ⟨w.heap.size, 2, none⟩) fz).trans F2, (HV.cell (p := ⟨gk, k, none⟩) hgk').trans QK, (HV.cell (cell_lt qy)).trans qy, (HV.cell (cell_lt qx)).trans qx, (HV.cell (p := ⟨gk, m, none⟩) hgk').trans QM, (HV.cell (cell_lt qz)).trans qz,
                    ⟨(HV.cell (p := ⟨go, y * 2, none⟩) hgo).trans qoy.1, (HV.cell (p := ⟨go, y * 2 + 1, none⟩) hgo).trans qoy.2⟩, (HV.cell (p := ⟨go, z * 2, none⟩) hgo).trans qoz.1, (HV.cell (p := ⟨go, z * 2 + 1, none⟩) hgo).trans qoz.2⟩
                clear QK qy qx QM qz qoy qoz F2
                have hS0 := SK.out v2.drew hd
                refine tamed_region (S := fun w' => w'.cell? ⟨w.heap.size, 2, none⟩ = some (.slice (some a3) F.length c3) ∧ w'.cell? ⟨gk, k, none⟩ = some (.int .i64 (y : Int)) ∧ w'.cell? (a3.add y) = some (.int .i64 (nth F y)) ∧ w'.cell? (a3.add x) = some (.int .i64 (nth F x)) ∧ w'.cell? ⟨gk, m, none⟩ = some (.int .i64 (z : Int)) ∧ w'.cell? (a3.add z) = some (.int .i64 (nth F z)) ∧ (w'.cell? ⟨go, y * 2, none⟩ = some (.int .i64 (pT out y)) ∧ w'.cell? ⟨go, y * 2 + 1, none⟩ = some (.int .i64 (pB out y))) ∧ w'.cell? ⟨go, z * 2, none⟩ = some (.int .i64 (pT out z)) ∧ w'.cell? ⟨go, z * 2 + 1, none⟩ = some (.int .i64 (pB out z))) (fun j => j == 24 || j == 25) (by kernel_rfl) ?_
                refine tame0 (k := 0) ?_ rfl (by kernel_rfl) (by kernel_rfl) (by kernel_rfl) (fun _ _ _ h => h) (by kernel_rfl) (fun v => ?_) ?_
                rotate_left
                · (go_simp; all_goals rfl)
                simp only [Act.put, List.setIfInBounds_toArray]
                refine tame0 (k := 1) ?_ rfl (by kernel_rfl) (by kernel_rfl) (by kernel_rfl) (fun _ _ _ h => h) (by kernel_rfl) (fun v => ?_) ?_
                rotate_left
                · (go_simp; all_goals rfl)
                simp only [Act.put]
                refine tameT (k := 2) ?_ rfl (by kernel_rfl) (by kernel_rfl) (by kernel_rfl) (by kernel_rfl) (by kernel_rfl) (fun _ _ _ h => h) (by kernel_rfl) hS0 (fun v hv => ?_) ?_
                rotate_left
                · (obtain ⟨k1, k2, k3, k4, k5, k6, ⟨k7, k8⟩, k9, k10⟩ := hv; go_simp; all_goals rfl)
                simp only [Act.put]
                refine tame0 (k := 3) ?_ rfl (by kernel_rfl) (by kernel_rfl) (by kernel_rfl) (fun _ _ _ h => h) (by kernel_rfl) (fun v => ?_) ?_
                rotate_left
                · (go_simp; all_goals rfl)
                simp only [Act.put]
                refine tame0 (k := 4) ?_ rfl (by kernel_rfl) (by kernel_rfl) (by kernel_rfl) (fun _ _ _ h => h) (by kernel_rfl) (fun v => ?_) ?_
                rotate_left
                · (go_simp; all_goals rfl)
                simp only [Act.put]
                refine tameT (k := 5) ?_ rfl (by kernel_rfl) (by kernel_rfl) (by kernel_rfl) (by kernel_rfl) (by kernel_rfl) (fun _ _ _ h => h) (by kernel_rfl) hS0 (fun v hv => ?_) ?_
                rotate_left
                · (obtain ⟨k1, k2, k3, k4, k5, k6, ⟨k7, k8⟩, k9, k10⟩ := hv; go_simp; all_goals rfl)
                simp only [Act.put]
                refine tame0 (k := 6) ?_ rfl (by kernel_rfl) (by kernel_rfl) (by kernel_rfl) (fun _ _ _ h => h) (by kernel_rfl) (fun v => ?_) ?_
                rotate_left
                · (go_simp; all_goals rfl)
                simp only [Act.put]
                refine tame0 (k := 7) ?_ rfl (by kernel_rfl) (by kernel_rfl) (by kernel_rfl) (fun _ _ _ h => h) (by kernel_rfl) (fun v => ?_) ?_
                rotate_left
                · (go_simp; all_goals rfl)
                simp only [Act.put]
                refine tame0 (k := 8) ?_ rfl (by kernel_rfl) (by kernel_rfl) (by kernel_rfl) (fun _ _ _ h => h) (by kernel_rfl) (fun v => ?_) ?_
                rotate_left
                · (go_simp; all_goals rfl)
                simp only [Act.put]
                refine tame0 (k := 9) ?_ rfl (by kernel_rfl) (by kernel_rfl) (by kernel_rfl) (fun _ _ _ h => h) (by kernel_rfl) (fun v => ?_) ?_
                rotate_left
                · (go_simp; all_goals rfl)
                simp only [Act.put]
                refine tame0 (k := 10) ?_ rfl (by kernel_rfl) (by kernel_rfl) (by kernel_rfl) (fun _ _ _ h => h) (by kernel_rfl) (fun v => ?_) ?_
                rotate_left
                · (go_simp; all_goals rfl)
                simp only [Act.put]
                refine tame0 (k := 11) ?_ rfl (by kernel_rfl) (by kernel_rfl) (by kernel_rfl) (fun _ _ _ h => h) (by kernel_rfl) (fun v => ?_) ?_
                rotate_left
                · (go_simp; all_goals rfl)
                simp only [Act.put]
                refine tameT (k := 12) ?_ rfl (by kernel_rfl) (by kernel_rfl) (by kernel_rfl) (by kernel_rfl) (by kernel_rfl) (fun _ _ _ h => h) (by kernel_rfl) hS0 (fun v hv => ?_) ?_
                rotate_left
                · (obtain ⟨k1, k2, k3, k4, k5, k6, ⟨k7, k8⟩, k9, k10⟩ := hv; go_simp; all_goals rfl)
                simp only [Act.put]
                refine tame0 (k := 13) ?_ rfl (by kernel_rfl) (by kernel_rfl) (by kernel_rfl) (fun _ _ _ h => h) (by kernel_rfl) (fun v => ?_) ?_
                rotate_left
                · (go_simp; all_goals rfl)
                simp only [Act.put]
                refine tameT (k := 14) ?_ rfl (by kernel_rfl) (by kernel_rfl) (by kernel_rfl) (by kernel_rfl) (by kernel_rfl) (fun _ _ _ h => h) (by kernel_rfl) hS0 (fun v hv => ?_) ?_
                rotate_left
                · (obtain ⟨k1, k2, k3, k4, k5, k6, ⟨k7, k8⟩, k9, k10⟩ := hv; go_simp; all_goals rfl)
                simp only [Act.put]
                refine tame0 (k := 15) ?_ rfl (by kernel_rfl) (by kernel_rfl) (by kernel_rfl) (fun _ _ _ h => h) (by kernel_rfl) (fun v => ?_) ?_
                rotate_left
                · (go_simp; all_goals rfl)
                simp only [Act.put]
                refine tame0 (k := 16) ?_ rfl (by kernel_rfl) (by kernel_rfl) (by kernel_rfl) (fun _ _ _ h => h) (by kernel_rfl) (fun v => ?_) ?_
                rotate_left
                · (go_simp; all_goals rfl)
                simp only [Act.put]
                refine tame0 (k := 17) ?_ rfl (by kernel_rfl) (by kernel_rfl) (by kernel_rfl) (fun _ _ _ h => h) (by kernel_rfl) (fun v => ?_) ?_
                rotate_left
                · (go_simp; all_goals rfl)
                simp only [Act.put]
                refine tame0 (k := 18) ?_ rfl (by kernel_rfl) (by kernel_rfl) (by kernel_rfl) (fun _ _ _ h => h) (by kernel_rfl) (fun v => ?_) ?_
                rotate_left
                · (go_simp; all_goals rfl)
                simp only [Act.put]
                refine tameT (k := 19) ?_ rfl (by kernel_rfl) (by kernel_rfl) (by kernel_rfl) (by kernel_rfl) (by kernel_rfl) (fun _ _ _ h => h) (by kernel_rfl) hS0 (fun v hv => ?_) ?_
                rotate_left
                · (obtain ⟨k1, k2, k3, k4, k5, k6, ⟨k7, k8⟩, k9, k10⟩ := hv; go_simp; all_goals rfl)
                simp only [Act.put]
                refine tame0 (k := 20) ?_ rfl (by kernel_rfl) (by kernel_rfl) (by kernel_rfl) (fun _ _ _ h => h) (by kernel_rfl) (fun v => ?_) ?_
                rotate_left
                · (go_simp; all_goals rfl)
                simp only [Act.put]
                refine tameT (k := 21) ?_ rfl (by kernel_rfl) (by kernel_rfl) (by kernel_rfl) (by kernel_rfl) (by kernel_rfl) (fun _ _ _ h => h) (by kernel_rfl) hS0 (fun v hv => ?_) ?_
                rotate_left
                · (obtain ⟨k1, k2, k3, k4, k5, k6, ⟨k7, k8⟩, k9, k10⟩ := hv; go_simp; all_goals rfl)
                simp only [Act.put]
                clear hS0
                refine tame_one (k := 22) (by kernel_rfl) rfl (by kernel_rfl) ?_
                go_simp
                refine (l6Between_c (nth F x) (nth F y) (nth F z) (pT out y) (pB out y) (pT out z) (pB out z) (btX F out x y z) (btY F out x y z) (price_bd hF20 y).1 hA hB (price_bd hF20 z).2 fy fz2 rfl rfl _).mono ?_
                rintro e w5 ⟨rfl, b5⟩
                have H5 := bUp hd b5 (Nat.le_refl _)
                refine ⟨by first | exact SK.out _ H5, ?_⟩
                have Ra := R.below (H5.alloc H5.size (.cells #[.int .i64 (cutT (btX F out x y z) (btY F out x y z)), .int .i64 (cutB (btX F out x y z) (btY F out x y z))] 40))
                have osrc := (OwnP.lit w5 [btw F out x y z] (by simp)).src
                have H6 := H5.alloc H5.size (.cells #[.int .i64 (cutT (btX F out x y z) (btY F out x y z)), .int .i64 (cutB (btX F out x y z) (btY F out x y z))] 40)
                refine tame_one (k := 23) (by kernel_rfl) rfl (by kernel_rfl) ?_
                go_simp
                refine ⟨by first | exact SK.out _ H6, ?_⟩
                have hML := chM_len P F out x hkl24 k m hlt hmt
                refine tame_one (k := 24) (by kernel_rfl) rfl (by kernel_rfl) ?_
                refine op_append_pairs _ _ _ rfl (w.heap.size + 1) (some ⟨g, 0, none⟩) _ c (chM P F out x k m) rfl rfl Ra.o _ 1 1 [btw F out x y z] rfl rfl osrc (by simp; omega) Ra.lt (by simp) ?_
                intro g2 c2' w7 ho7 hg7 hx7
                have R7 := Ra.push ho7 hg7 hx7
                rw [← HC.out] at R7
                refine ⟨fun h => (by cases h), ?_⟩
                refine tame_one (k := 25) (by kernel_rfl) rfl (by kernel_rfl) ?_
                go_simp
                refine tame_end (by kernel_rfl) ?_
                go_wp2_with fail
                go_roundw
                case rel => exact ⟨m + 1, g2, c2', by omega, by go_num, by rw [HC.out, List.length_append]; rfl, R7⟩
                case measure => simp [intOf] <;> omega
              · have HC := Lib.hid (chM_no (out := out) HY.out hmt HZ.out (fun h => hB h.2))
                go_wp2_with fail
                go_roundw
                case rel => exact ⟨m + 1, g, c, by omega, by go_num, by rw [HC.out], by rw [HC.out]; exact R⟩
                case measure => simp [intOf] <;> omega
            · have HC := Lib.hid (chM_no (out := out) HY.out hmt HZ.out (fun h => hA h.1))
              go_wp2_with fail
              go_roundw
              case rel => exact ⟨m + 1, g, c, by omega, by go_num, by rw [HC.out], by rw [HC.out]; exact R⟩
              case measure => simp [intOf] <;> omega
          · have hmk : m = (kids P (x : Int)).length := by omega
            subst hmk
            have HQ := Lib.hid (chM_all (F := F) (out := out) hlt)
            rw [HQ.out] at R ⊢
            go_wp2_with fail
            go_roundw
            case rel => exact ⟨k + 1, g, c, by omega, by go_num, rfl, R⟩
            case measure => simp [intOf] <;> omega
    · have hkn : k = (kids P (x : Int)).length := by omega
      subst hkn
      go_wp2
      go_ret
      exact ⟨_, _, rfl, R.o.mono (by omega), R.hb⟩
end Go.Proofs.Ytnhclpajfejnoaa
