/- UpperPrices and LowerPrices, the program's. -/
import Derived.Test.YtnhclpajfejnoaaPrE
import Derived.Test.YtnhclpajfejnoaaFgI
import Derived.Test.YtnhclpajfejnoaaPrL
namespace Go.Proofs.Ytnhclpajfejnoaa
open Go.RowKit

def cmpI (f g : Int × Int) : Int := if f.1 * g.2 < g.1 * f.2 then -1 else if g.1 * f.2 < f.1 * g.2 then 1 else 0
theorem cmp_up {f g : Int × Int} : (cmpI f g > 0) = (betP true f g = true) := by
  unfold cmpI betP lessP
  apply propext
  simp only [if_true, decide_eq_true_eq]
  split
  · omega
  · split <;> omega
theorem cmp_low {f g : Int × Int} : (cmpI f g < 0) = (betP false f g = true) := by
  unfold cmpI betP lessP
  apply propext
  simp only [Bool.false_eq_true, if_false, decide_eq_true_eq]
  split
  · omega
  · split <;> omega
set_option maxRecDepth 20000 in
set_option maxHeartbeats 1000000 in
theorem compared_c (a b c d : Int) (ha : -1000000000 ≤ a ∧ a ≤ 1000000000) (hb : 0 ≤ b ∧ b ≤ 1000000) (hc : -1000000000 ≤ c ∧ c ≤ 1000000000) (hd : 0 ≤ d ∧ d ≤ 1000000) (w : World) :
    Calls Try.prog 126 #[.agg #[.int .i64 a, .int .i64 b], .agg #[.int .i64 c, .int .i64 d]] w (Quietly w (.int .i64 (cmpI (a, b) (c, d)))) := by
  have m1 := mulAbs2 (x := a) (y := d) (A := 1000000000) (B := 1000000) ha (by omega) (by decide) (by decide)
  have m2 := mulAbs2 (x := c) (y := b) (A := 1000000000) (B := 1000000) hc (by omega) (by decide) (by decide)
  have e1 : IntKind.i64.wrap (a * d) = a * d := IntWalk.i64_in _ (by omega)
  have e2 : IntKind.i64.wrap (c * b) = c * b := IntWalk.i64_in _ (by omega)
  have HB1 : Below w.heap.size w ((w.alloc (.cells #[.int .i64 a, .int .i64 b] 40)).alloc (.cells #[.int .i64 c, .int .i64 d] 40)) := by
    with_reducible repeat (first | exact Below.refl _ _ | refine Below.alloc ?_ (by simp <;> omega) _)
  have bf := (Bx.new w (.int .i64 a) (.int .i64 b) 40).alloc (.cells #[.int .i64 c, .int .i64 d] 40)
  have bg := Bx.new (w.alloc (.cells #[.int .i64 a, .int .i64 b] 40)) (.int .i64 c) (.int .i64 d) 40
  have HC : Hid (cmpI (a, b) (c, d) = if a * d < c * b then -1 else if c * b < a * d then 1 else 0) := Lib.hid rfl
  go_enter Try.func126, Try.ntmps126
  go_upto_region 1 with fail
  generalize (w.alloc (.cells #[.int .i64 a, .int .i64 b] 40)).alloc (.cells #[.int .i64 c, .int .i64 d] 40) = v at *
  simp only [World.size_alloc] at bf bg
  have HS : Hid ((v.drew.cell? ⟨w.heap.size, 0, none⟩ = some (.int .i64 a) ∧ v.drew.cell? ⟨w.heap.size, 1, none⟩ = some (.int .i64 b)) ∧ v.drew.cell? ⟨w.heap.size + 1, 0, none⟩ = some (.int .i64 c) ∧ v.drew.cell? ⟨w.heap.size + 1, 1, none⟩ = some (.int .i64 d)) := Lib.hid ⟨⟨bf.1, bf.2.1⟩, bg.1, bg.2.1⟩
  have hS0 := HS.out
  clear bf bg
  refine tamed_region (S := fun w' => (w'.cell? ⟨w.heap.size, 0, none⟩ = some (.int .i64 a) ∧ w'.cell? ⟨w.heap.size, 1, none⟩ = some (.int .i64 b)) ∧ w'.cell? ⟨w.heap.size + 1, 0, none⟩ = some (.int .i64 c) ∧ w'.cell? ⟨w.heap.size + 1, 1, none⟩ = some (.int .i64 d)) (fun _ => false) (by kernel_rfl) ?_
  refine tame0 (k := 0) ?_ rfl (by kernel_rfl) (by kernel_rfl) (by kernel_rfl) (fun _ _ _ h => h) (by kernel_rfl) (fun v => ?_) ?_
  rotate_left
  · (go_simp; all_goals rfl)
  simp only [Act.put, List.setIfInBounds_toArray]
  refine tame (k := 1) ?_ rfl (by kernel_rfl) (by kernel_rfl) (by kernel_rfl) (by kernel_rfl) (fun _ _ _ h => h) (by kernel_rfl) hS0 (fun v hv => ?_) ?_
  rotate_left
  · (obtain ⟨⟨k1, k2⟩, k3, k4⟩ := hv; go_simp; all_goals rfl)
  simp only [Act.put]
  refine tame0 (k := 2) ?_ rfl (by kernel_rfl) (by kernel_rfl) (by kernel_rfl) (fun _ _ _ h => h) (by kernel_rfl) (fun v => ?_) ?_
  rotate_left
  · (go_simp; all_goals rfl)
  simp only [Act.put]
  refine tame (k := 3) ?_ rfl (by kernel_rfl) (by kernel_rfl) (by kernel_rfl) (by kernel_rfl) (fun _ _ _ h => h) (by kernel_rfl) hS0 (fun v hv => ?_) ?_
  rotate_left
  · (obtain ⟨⟨k1, k2⟩, k3, k4⟩ := hv; go_simp; all_goals rfl)
  simp only [Act.put]
  refine tame0 (k := 4) ?_ rfl (by kernel_rfl) (by kernel_rfl) (by kernel_rfl) (fun _ _ _ h => h) (by kernel_rfl) (fun v => ?_) ?_
  rotate_left
  · (go_simp; all_goals rfl)
  simp only [Act.put]
  refine tame0 (k := 5) ?_ rfl (by kernel_rfl) (by kernel_rfl) (by kernel_rfl) (fun _ _ _ h => h) (by kernel_rfl) (fun v => ?_) ?_
  rotate_left
  · (go_simp; all_goals rfl)
  simp only [Act.put]
  refine tame (k := 6) ?_ rfl (by kernel_rfl) (by kernel_rfl) (by kernel_rfl) (by kernel_rfl) (fun _ _ _ h => h) (by kernel_rfl) hS0 (fun v hv => ?_) ?_
  rotate_left
  · (obtain ⟨⟨k1, k2⟩, k3, k4⟩ := hv; go_simp; all_goals rfl)
  simp only [Act.put]
  refine tame0 (k := 7) ?_ rfl (by kernel_rfl) (by kernel_rfl) (by kernel_rfl) (fun _ _ _ h => h) (by kernel_rfl) (fun v => ?_) ?_
  rotate_left
  · (go_simp; all_goals rfl)
  simp only [Act.put]
  refine tame (k := 8) ?_ rfl (by kernel_rfl) (by kernel_rfl) (by kernel_rfl) (by kernel_rfl) (fun _ _ _ h => h) (by kernel_rfl) hS0 (fun v hv => ?_) ?_
  rotate_left
  · (obtain ⟨⟨k1, k2⟩, k3, k4⟩ := hv; go_simp; all_goals rfl)
  simp only [Act.put]
  refine tame0 (k := 9) ?_ rfl (by kernel_rfl) (by kernel_rfl) (by kernel_rfl) (fun _ _ _ h => h) (by kernel_rfl) (fun v => ?_) ?_
  rotate_left
  · (go_simp; all_goals rfl)
  simp only [Act.put]
  clear hS0
  refine tame_one (k := 10) (by kernel_rfl) rfl (by kernel_rfl) ?_
  go_simp
  refine ⟨by first | exact HS.out, ?_⟩
  refine tame_one (k := 11) (by kernel_rfl) rfl (by kernel_rfl) ?_
  go_simp
  refine ⟨by first | exact HS.out, ?_⟩
  refine tame_end (by kernel_rfl) ?_
  clear HS
  have HB2 := HB1.drew
  by_cases h1 : a * d < c * b
  · have HC1 : Hid (cmpI (a, b) (c, d) = -1) := Lib.hid (by rw [HC.out, if_pos h1])
    go_wp2_with fail
    go_ret
    exact ⟨by rw [HC1.out] <;> rfl, HB2⟩
  · by_cases h2 : c * b < a * d
    · have HC1 : Hid (cmpI (a, b) (c, d) = 1) := Lib.hid (by rw [HC.out, if_neg h1, if_pos h2])
      go_wp2_with fail
      go_ret
      exact ⟨by rw [HC1.out] <;> rfl, HB2⟩
    · have HC1 : Hid (cmpI (a, b) (c, d) = 0) := Lib.hid (by rw [HC.out, if_neg h1, if_neg h2])
      go_wp2_with fail
      go_ret
      exact ⟨by rw [HC1.out] <;> rfl, HB2⟩
theorem soundMarket_is (A1 : Option Addr) (P : List Int) (c1 : Nat) (A2 : Option Addr) (W : List Int) (c2 : Nat) (A3 : Option Addr) (F : List Int) (c3 : Nat) (q : Bool) (hq : sndB P W F = q) (w : World) (h : RdM w A1 P A2 W A3 F) :
    Calls Try.prog 80 #[mkV A1 P.length c1 A2 W.length c2 A3 F.length c3] w (Quietly w (.bool q)) := by
  have HB1 : Below w.heap.size w (w.alloc (.cells #[.slice A1 P.length c1, .slice A2 W.length c2, .slice A3 F.length c3] 28)) := (Below.refl _ _).alloc (Nat.le_refl _) _
  have bx := Bx3.new w (.slice A1 P.length c1) (.slice A2 W.length c2) (.slice A3 F.length c3) 28
  cases hm : mktB P W F
  · obtain rfl : q = false := by rw [← hq]; simp [sndB, hm]
    go_enter Try.func80, Try.ntmps80
    go_wp2_with fail
    refine (isMarket_is _ _ _ _ _ _ _ _ _ _ hm _ (h.below HB1 (Nat.le_refl _))).mono ?_
    rintro e w2 ⟨rfl, b2⟩
    go_wp2
    go_ret
    exact ⟨rfl, bUp HB1 b2 HB1.size⟩
  · have HM := Lib.hid (mktB_iff.1 hm)
    have HQ := Lib.hid (show decide (unK P F < 0) = q by rw [← hq]; simp [sndB, hm, un_lt])
    go_enter Try.func80, Try.ntmps80
    go_wp2_with fail
    refine (isMarket_is _ _ _ _ _ _ _ _ _ _ hm _ (h.below HB1 (Nat.le_refl _))).mono ?_
    rintro e w2 ⟨rfl, b2⟩
    have HB2 := bUp HB1 b2 HB1.size
    obtain ⟨f0, f1, f2, fz⟩ := bx.below b2
    clear bx b2 HB1
    go_wp2_with fail
    refine (uneven_c A1 P c1 A2 W.length c2 A3 F c3 _ (h.below HB2 (Nat.le_refl _)).r1 (h.below HB2 (Nat.le_refl _)).r3 HM.out.1.n2 HM.out.2.1).mono ?_
    rintro e w3 ⟨rfl, b3⟩
    go_wp2
    go_ret
    exact ⟨by rw [← HQ.out] <;> rfl, bUp HB2 b3 HB2.size⟩

/-- Nothing yet, or a fraction. -/
def zP (f : Int × Int) : Prop := f = (0, 0) ∨ frP f = true
theorem zP_bd {f : Int × Int} (h : zP f) : (-1000000000 ≤ f.1 ∧ f.1 ≤ 1000000000) ∧ (0 ≤ f.2 ∧ f.2 ≤ 1000000) := by
  rcases h with rfl | h
  · exact ⟨⟨by decide, by decide⟩, by decide, by decide⟩
  · have := frP_iff.1 h
    exact ⟨this.1, by omega, this.2.1.2⟩
theorem zP_nP {l : List (Int × Int)} (h : ∀ f ∈ l, zP f) (k : Nat) : zP (nP l k) := by
  rcases Nat.lt_or_ge k l.length with hk | hk
  · exact h _ (nP_mem hk)
  · left
    unfold nP
    rw [List.getD_eq_getElem?_getD, List.getElem?_eq_none hk]
    rfl
theorem stTo_z {P C : List Int} (hc : clmB P C = true) : ∀ k, k ≤ (endL P).length → ∀ f ∈ stTo P C k, zP f
  | 0, _, f, hf => .inl (List.eq_of_mem_replicate hf)
  | k + 1, hk, f, hf => by
    rw [stTo] at hf
    rcases List.mem_or_eq_of_mem_set hf with hf | rfl
    · exact stTo_z hc k (by omega) f hf
    · simp only [clmB, Bool.and_eq_true, decide_eq_true_eq] at hc
      exact .inr (claim_fr (allB_nth hc.2 (by omega)))
theorem topOf_z {up : Bool} {l : List (Int × Int)} (h : ∀ f ∈ l, frP f = true) : zP (topOf up l) := by
  rcases Nat.eq_zero_or_pos l.length with h0 | h0
  · obtain rfl := List.length_eq_zero_iff.1 h0
    exact .inl rfl
  · exact .inr (h _ (topOf_mem h0))
theorem step_z {up : Bool} {P F : List Int} {x : Nat} {out out' : List (Int × Int)} (h : ∀ f ∈ out, zP f) (hs : stepX up P F x out = some out') : ∀ f ∈ out', zP f := by
  unfold stepX at hs
  split at hs
  · cases hs
    exact h
  · split at hs
    · next ha =>
      cases hs
      intro f hf
      rcases List.mem_or_eq_of_mem_set hf with hf | rfl
      · exact h f hf
      · exact topOf_z (List.all_eq_true.1 ha)
    · cases hs
theorem stL_z {up : Bool} {P F C : List Int} (hc : clmB P C = true) : ∀ m out, stL up P F C m = some out → ∀ f ∈ out, zP f
  | 0, out, h => by
    rw [stL] at h
    cases h
    exact stTo_z hc _ (Nat.le_refl _)
  | m + 1, out, h => by
    rw [stL] at h
    cases hm : stL up P F C m with
    | none => rw [hm] at h; cases h
    | some o =>
      rw [hm] at h
      exact step_z (stL_z hc m o hm) h
/-- The row while a node's best price is sought: m of the list's prices are seen. -/
def bsM (up : Bool) (x : Nat) (out L : List (Int × Int)) (m : Nat) : List (Int × Int) := if m = 0 then out else out.set x (bestTo up L (m - 1))
section
variable {up : Bool} {x : Nat} {out L : List (Int × Int)} {m : Nat}
theorem bsM_len : (bsM up x out L m).length = out.length := by
  unfold bsM
  split
  · rfl
  · rw [List.length_set]
theorem bsM_zero : bsM up x out L 0 = out := rfl
theorem bsM_first : (bsM up x out L 0).set x (nP L 0) = bsM up x out L 1 := rfl
theorem bsM_at (hx : x < out.length) : nP (bsM up x out L (m + 1)) x = bestTo up L m := by
  unfold bsM
  rw [if_neg (by omega), nP_set_self hx]
  rfl
theorem bsM_yes (h : betP up (nP L (m + 1)) (bestTo up L m) = true) : (bsM up x out L (m + 1)).set x (nP L (m + 1)) = bsM up x out L (m + 2) := by
  unfold bsM
  rw [if_neg (by omega), if_neg (by omega), List.set_set]
  show _ = out.set x (bestTo up L (m + 1))
  rw [bestTo, h]
  rfl
theorem bsM_no (h : betP up (nP L (m + 1)) (bestTo up L m) = false) : bsM up x out L (m + 1) = bsM up x out L (m + 2) := by
  unfold bsM
  rw [if_neg (by omega), if_neg (by omega)]
  show _ = out.set x (bestTo up L (m + 1))
  rw [bestTo, h]
  rfl
theorem bsM_z (hx : x < out.length) (ho : ∀ f ∈ out, zP f) (hL : ∀ f ∈ L, frP f = true) (hm : m ≤ L.length) : zP (nP (bsM up x out L m) x) := by
  rcases m with _ | m
  · exact zP_nP ho x
  · rw [bsM_at hx]
    exact .inr (hL _ (bestTo_mem m (by omega)))
theorem bsM_set (hx : x < out.length) (hm : 0 < m) (h : betP up (nP L m) (nP (bsM up x out L m) x) = true) : (bsM up x out L m).set x (nP L m) = bsM up x out L (m + 1) := by
  obtain ⟨m, rfl⟩ : ∃ n, m = n + 1 := ⟨m - 1, by omega⟩
  rw [bsM_at hx] at h
  exact bsM_yes h
theorem bsM_keep (hx : x < out.length) (hm : 0 < m) (h : ¬ betP up (nP L m) (nP (bsM up x out L m) x) = true) : bsM up x out L m = bsM up x out L (m + 1) := by
  obtain ⟨m, rfl⟩ : ∃ n, m = n + 1 := ⟨m - 1, by omega⟩
  rw [bsM_at hx] at h
  exact bsM_no (by simpa using h)
theorem bsM_all (h : 0 < L.length) : bsM up x out L L.length = out.set x (topOf up L) := by
  unfold bsM
  rw [if_neg (by omega)]
  rfl
end
theorem side_none {P F : List Int} {x : Nat} (he : endB P x = true) : (lessL P F x).length = 0 ∧ (sameL P F x).length = 0 ∧ (moreL P F x).length = 0 := by
  have hk := (kids_nil x).2 he
  refine ⟨?_, ?_, ?_⟩
  · rw [List.length_eq_zero_iff, List.eq_nil_iff_forall_not_mem]
    intro y hy
    have := (mem_less.1 hy).1
    rw [hk] at this
    cases this
  · rw [List.length_eq_zero_iff, List.eq_nil_iff_forall_not_mem]
    intro y hy
    have := (mem_same.1 hy).1
    rw [hk] at this
    cases this
  · rw [List.length_eq_zero_iff, List.eq_nil_iff_forall_not_mem]
    intro y hy
    have := (mem_more.1 hy).1
    rw [hk] at this
    cases this
theorem imL_none {P F : List Int} {x : Nat} {out : List (Int × Int)} (he : endB P x = true) : imL P F out x = [] := by
  have h := side_none (F := F) he
  rw [imL, imS, imQ, List.length_eq_zero_iff.1 h.1, List.length_eq_zero_iff.1 h.2.1]
  rfl
theorem imL_pos {P F : List Int} {x : Nat} {out : List (Int × Int)} (he : endB P x = false) (hu : unB P F x = false) : 0 < (imL P F out x).length := by
  have h := chL_pos (out := out) he hu
  rcases Nat.eq_zero_or_pos (imL P F out x).length with h0 | h0
  · have hm := (mem_both _).1 (List.getElem_mem h)
    rw [List.length_eq_zero_iff.1 h0] at hm
    cases hm
  · exact h0
theorem imL_fr {P F : List Int} {x : Nat} {out : List (Int × Int)} (hp : ParOk P) (h : PrInv P (x + 1) out)
    (hy : ∀ a ∈ lessL P F x, ∀ b ∈ moreL P F x, frP (btw F out x a.toNat b.toNat) = true) : ∀ f ∈ imL P F out x, frP f = true := by
  intro f hf
  rcases mem_imL.1 hf with ⟨a, ha, rfl⟩ | ⟨a, ha, b, hb, rfl⟩
  · have hk := kids_mem hp (mem_same.1 ha).1
    exact h.fr _ (by omega) (.inl (by omega))
  · exact hy a ha b hb
/-- The price between, cut. -/
theorem btw_lw {F : List Int} {out : List (Int × Int)} {x y z : Nat} (h : lwOk (btX F out x y z) (btY F out x y z) = true) : (lwT (btX F out x y z) (btY F out x y z), lwB (btX F out x y z) (btY F out x y z)) = btw F out x y z := by
  unfold lwOk at h
  unfold lwT lwB kpT kpB btw
  rw [h]
  rfl

section
variable {ops : Array Oper} {rest : List Oper} {o : Oper} {a : Act} {Q : Exit → Act → World → Prop}
theorem wp_make_pairs (w : World) (hg : o.guard = none) (l c : Operand) (hop : o.op = Op.makeSlice 36 l c) (kl kc : IntKind) (L C : Int) (n : Nat)
    (hl : a.eval l = .int kl L) (hc : a.eval c = .int kc C) (hL : L = (n : Int)) (hC : C = (n : Int)) (hn : n ≤ 16777216)
    (hK : ∀ w', OwnP w' w.heap.size (some ⟨w.heap.size, 0, none⟩) n (List.replicate n (0, 0)) → Below w.heap.size w w' → wpList Try.prog ops Q rest (a.put o.dst (.slice (some ⟨w.heap.size, 0, none⟩) n n)) w') :
    wpList Try.prog ops Q (o :: rest) a w :=
  wpList_plain hg fun _ hK2 => op_make_pairs w l c hop kl kc L C n hl hc hL hC hn fun w' h1 h2 => hK2 _ _ (hK w' h1 h2)
end
/-- While a node's prices are listed: the list, the three rows of children, the prices. -/
structure PiR (w wr : World) (go : Nat) (out : List (Int × Int)) (co : Nat) (g c : Nat) (L : List (Int × Int)) (A5 : Option Addr) (c5 : Nat) (K5 : List Int) (A6 : Option Addr) (c6 : Nat) (K6 : List Int) (A7 : Option Addr) (c7 : Nat) (K7 : List Int) (x y z : Value) : Prop where
  o : OwnP wr (go + 1) (some ⟨g, 0, none⟩) c L
  k5 : Own wr (go + 1) A5 c5 K5
  k6 : Own wr (go + 1) A6 c6 K6
  k7 : Own wr (go + 1) A7 c7 K7
  d5 : blk A5 ≠ some g
  d6 : blk A6 ≠ some g
  d7 : blk A7 ≠ some g
  R : PrR w wr go co out x y z
section
variable {w wr w' : World} {go co g c c5 c6 c7 : Nat} {out L : List (Int × Int)} {A5 A6 A7 : Option Addr} {K5 K6 K7 : List Int} {x y z : Value}
theorem PiR.below (I : PiR w wr go out co g c L A5 c5 K5 A6 c6 K6 A7 c7 K7 x y z) (h : Below wr.heap.size wr w') : PiR w w' go out co g c L A5 c5 K5 A6 c6 K6 A7 c7 K7 x y z :=
  ⟨I.o.below h, I.k5.below h, I.k6.below h, I.k7.below h, I.d5, I.d6, I.d7, I.R.below h⟩
theorem PiR.push {g2 c2 : Nat} {L2 : List (Int × Int)} (I : PiR w wr go out co g c L A5 c5 K5 A6 c6 K6 A7 c7 K7 x y z) (o : OwnP w' (go + 1) (some ⟨g2, 0, none⟩) c2 L2) (hg : wr.grownBy w' (blk (some ⟨g, 0, none⟩))) (hx : some g2 = blk (some ⟨g, 0, none⟩) ∨ g2 = wr.heap.size) : PiR w w' go out co g2 c2 L2 A5 c5 K5 A6 c6 K6 A7 c7 K7 x y z := by
  have hge : go + 1 ≤ g := I.o.ge g rfl
  have nn : ∀ {A : Option Addr} {ca : Nat} {K : List Int}, Own wr (go + 1) A ca K → blk A ≠ some g → blk A ≠ some g2 := by
    intro A ca K hA hd
    rcases hx with h | h
    · have : g2 = g := by simpa [blk] using h
      rw [this]
      exact hd
    · rw [h]
      intro e
      have := hA.ltk _ e
      omega
  exact ⟨o, I.k5.grown hg (.inr I.d5), I.k6.grown hg (.inr I.d6), I.k7.grown hg (.inr I.d7), nn I.k5 I.d5, nn I.k6 I.d6, nn I.k7 I.d7, I.R.other hg (by show go < g; omega)⟩
theorem PiR.lt (I : PiR w wr go out co g c L A5 c5 K5 A6 c6 K6 A7 c7 K7 x y z) : go + 1 ≤ g ∧ g < wr.heap.size ∧ go + 1 ≤ wr.heap.size := by
  have h1 : go + 1 ≤ g := I.o.ge g rfl
  have h2 : g < wr.heap.size := I.o.ltk g rfl
  omega
end
theorem imS_len (P F : List Int) (out : List (Int × Int)) (x k : Nat) : (imS P F out x k).length ≤ k := by
  unfold imS
  rw [List.length_map, List.length_take]
  omega
/-- The program's list while it is made. -/
def imA (P F : List Int) (out : List (Int × Int)) (x i : Nat) : List (Int × Int) := imS P F out x (sameL P F x).length ++ imQ P F out x i
def imB (P F : List Int) (out : List (Int × Int)) (x i k : Nat) : List (Int × Int) := imA P F out x i ++ imR P F out x (nth (lessL P F x) i) k
section
variable {P F : List Int} {out : List (Int × Int)} {x i k y z : Nat}
theorem imS_yes (hk : k < (sameL P F x).length) (hy : nth (sameL P F x) k = (y : Int)) : imS P F out x (k + 1) = imS P F out x k ++ [nP out y] := by rw [imS_succ hk, hy, Int.toNat_natCast]
theorem imA_zero : imA P F out x 0 = imS P F out x (sameL P F x).length := by simp [imA, imQ]
theorem imA_all : imA P F out x (lessL P F x).length = imL P F out x := rfl
theorem imB_zero : imB P F out x i 0 = imA P F out x i := by simp [imB, imR]
theorem imB_yes (hk : k < (moreL P F x).length) (hy : nth (lessL P F x) i = (y : Int)) (hz : nth (moreL P F x) k = (z : Int)) : imB P F out x i (k + 1) = imB P F out x i k ++ [btw F out x y z] := by
  rw [imB, imB, imR_succ hk, hy, hz, Int.toNat_natCast, Int.toNat_natCast, List.append_assoc]
theorem imB_all (hi : i < (lessL P F x).length) : imB P F out x i (moreL P F x).length = imA P F out x (i + 1) := by rw [imB, imA, imA, imQ_succ hi, List.append_assoc]
end
theorem side24 {P F : List Int} {x : Nat} (hn : P.length ≤ 24) : (lessL P F x).length ≤ 24 ∧ (sameL P F x).length ≤ 24 ∧ (moreL P F x).length ≤ 24 := by
  have h := side_len P F x (kids P (x : Int)).length
  have hk : (kids P (x : Int)).length ≤ 24 := Nat.le_trans (kidTo_len P x P.length) hn
  exact ⟨Nat.le_trans h.1 hk, Nat.le_trans h.2.1 hk, Nat.le_trans h.2.2 hk⟩
theorem imA_len (P F : List Int) (out : List (Int × Int)) (x : Nat) (hn : P.length ≤ 24) (i : Nat) : (imA P F out x i).length ≤ 24 + 24 * i := by
  have hs := side24 (F := F) (x := x) hn
  have h1 := imS_len P F out x (sameL P F x).length
  have h2 : (imQ P F out x i).length ≤ 24 * i := by
    induction i with
    | zero => simp [imQ]
    | succ i ih =>
      rcases Nat.lt_or_ge i (lessL P F x).length with h | h
      · rw [imQ_succ h, List.length_append]
        have : (imR P F out x (nth (lessL P F x) i) (moreL P F x).length).length ≤ 24 := by unfold imR; rw [List.length_map, List.length_take]; omega
        omega
      · unfold imQ at *
        rw [List.take_of_length_le h] at ih
        rw [List.take_of_length_le (by omega)]
        omega
  rw [imA, List.length_append]
  omega
theorem imB_len (P F : List Int) (out : List (Int × Int)) (x : Nat) (hn : P.length ≤ 24) (i k : Nat) (hi : i < (lessL P F x).length) : (imB P F out x i k).length ≤ 1000 := by
  have hs := side24 (F := F) (x := x) hn
  have h1 := imA_len P F out x hn i
  have : (imR P F out x (nth (lessL P F x) i) k).length ≤ 24 := by unfold imR; rw [List.length_map, List.length_take]; omega
  rw [imB, List.length_append]
  omega
theorem less_kid {P F : List Int} (hp : ParOk P) {x i : Nat} (hi : i < (lessL P F x).length) : ∃ y : Nat, nth (lessL P F x) i = (y : Int) ∧ x < y ∧ y < P.length ∧ nth F y < nth F x := by
  rw [nth_eq hi]
  have hm := mem_less.1 (List.getElem_mem hi)
  have h1 := kids_mem hp hm.1
  obtain ⟨j, h2, h3, h4⟩ := mem_kidTo.1 hm.1
  rw [h4] at h1 hm ⊢
  exact ⟨j, rfl, by omega, h2, by simpa using hm.2⟩
theorem more_kid {P F : List Int} (hp : ParOk P) {x i : Nat} (hi : i < (moreL P F x).length) : ∃ y : Nat, nth (moreL P F x) i = (y : Int) ∧ x < y ∧ y < P.length ∧ nth F x < nth F y := by
  rw [nth_eq hi]
  have hm := mem_more.1 (List.getElem_mem hi)
  have h1 := kids_mem hp hm.1
  obtain ⟨j, h2, h3, h4⟩ := mem_kidTo.1 hm.1
  rw [h4] at h1 hm ⊢
  exact ⟨j, rfl, by omega, h2, by simpa using hm.2⟩
theorem snd_mkt {P W F : List Int} (h : sndB P W F = true) : mktB P W F = true := by simp only [sndB, Bool.and_eq_true] at h; exact h.1
theorem same_kid {P F : List Int} (hp : ParOk P) {x i : Nat} (hi : i < (sameL P F x).length) : ∃ y : Nat, nth (sameL P F x) i = (y : Int) ∧ x < y ∧ y < P.length := by
  rw [nth_eq hi]
  have hm := (mem_same.1 (List.getElem_mem hi)).1
  have h1 := kids_mem hp hm
  obtain ⟨j, h2, h3, h4⟩ := mem_kidTo.1 hm
  rw [h4] at h1 ⊢
  exact ⟨j, rfl, by omega, h2⟩

set_option maxRecDepth 20000 in
set_option maxHeartbeats 4000000 in
theorem bestPrices_c (A1 : Option Addr) (P : List Int) (c1 : Nat) (A2 : Option Addr) (W : List Int) (c2 : Nat) (A3 : Option Addr) (F : List Int) (c3 : Nat) (A7 : Option Addr) (C : List Int) (c7 : Nat) (up : Bool) (w : World) (h : RdM w A1 P A2 W A3 F) (h7 : Rd w A7 (ints C)) (hl7 : C.length ≤ 16777216) :
    Calls Try.prog 71 #[mkV A1 P.length c1 A2 W.length c2 A3 F.length c3, .slice A7 C.length c7, .bool up] w (GivesP w (prV up P W F C) (prB up P W F C)) := by
  have HB1 : Below w.heap.size w (w.alloc (.cells #[.slice A1 P.length c1, .slice A2 W.length c2, .slice A3 F.length c3] 28)) := (Below.refl _ _).alloc (Nat.le_refl _) _
  have bx := Bx3.new w (.slice A1 P.length c1) (.slice A2 W.length c2) (.slice A3 F.length c3) 28
  cases hs : sndB P W F
  · have HQ := Lib.hid (pr_no1 (up := up) (C := C) hs)
    rw [HQ.out.1, HQ.out.2]
    go_enter Try.func71, Try.ntmps71
    go_wp2_with fail
    refine (soundMarket_is _ _ _ _ _ _ _ _ _ _ hs _ (h.below HB1 (Nat.le_refl _))).mono ?_
    rintro e w2 ⟨rfl, b2⟩
    go_wp2
    go_ret2
    exact ⟨none, 0, rfl, OwnP.nil _ _, bUp HB1 b2 HB1.size⟩
  · cases hcl : clmB P C
    · have HQ := Lib.hid (pr_no2 (up := up) (P := P) (W := W) (F := F) (C := C) (by simp [clsB, hcl]))
      rw [HQ.out.1, HQ.out.2]
      go_enter Try.func71, Try.ntmps71
      go_wp2_with fail
      refine (soundMarket_is _ _ _ _ _ _ _ _ _ _ hs _ (h.below HB1 (Nat.le_refl _))).mono ?_
      rintro e w2 ⟨rfl, b2⟩
      have HB2 := bUp HB1 b2 HB1.size
      obtain ⟨f0, f1, f2, fz⟩ := bx.below b2
      go_wp2_with fail
      refine (areClaims_is _ _ _ _ _ _ _ _ _ _ _ _ _ hcl _ (h.below HB2 (Nat.le_refl _)) (h7.below HB2 (Nat.le_refl _)) hl7 (snd_mkt hs)).mono ?_
      rintro e w3 ⟨rfl, b3⟩
      have HB3 := bUp HB2 b3 HB2.size
      go_wp2
      go_ret2
      exact ⟨none, 0, rfl, OwnP.nil _ _, HB3⟩
    · have HQ := Lib.hid (pr_yes (up := up) hs hcl)
      have hk := prok_of hs hcl
      have hpar := hk.tree.par
      have hn1 := hk.tree.n1
      have hn2 := hk.tree.n2
      have HFL := Lib.hid hk.len
      have HWL := Lib.hid hk.tree.len
      have HCL : Hid (C.length = (endL P).length) := Lib.hid (by have := hk.clm; simp only [clmB, Bool.and_eq_true, decide_eq_true_eq] at this; exact this.1)
      have hl24 : F.length ≤ 16777216 := h.l3
      rw [HQ.out.1, HQ.out.2]
      go_enter Try.func71, Try.ntmps71
      go_wp2_with fail
      refine (soundMarket_is _ _ _ _ _ _ _ _ _ _ hs _ (h.below HB1 (Nat.le_refl _))).mono ?_
      rintro e w2 ⟨rfl, b2⟩
      have HB2 := bUp HB1 b2 HB1.size
      have bx2 := bx.below b2
      obtain ⟨f0, f1, f2, fz⟩ := id bx2
      go_wp2_with fail
      refine (areClaims_is _ _ _ _ _ _ _ _ _ _ _ _ _ hcl _ (h.below HB2 (Nat.le_refl _)) (h7.below HB2 (Nat.le_refl _)) hl7 (snd_mkt hs)).mono ?_
      rintro e w3 ⟨rfl, b3⟩
      have HB3 := bUp HB2 b3 HB2.size
      have bx3 := bx2.below b3
      clear f0 f1 f2 fz bx bx2 b2 b3 HB1 HB2
      obtain ⟨f0, f1, f2, fz⟩ := id bx3
      go_wp2_with (at_make; refine wp_make_pairs _ rfl _ _ rfl _ _ _ _ F.length rfl rfl rfl rfl hl24 ?_; intro w4 om b4; have HB4 := bUp HB3 b4 HB3.size; have bx4 := bx3.below b4; clear f0 f1 f2; obtain ⟨f0, f1, f2, _⟩ := id bx4)
      refine (ends_c A1 P c1 A2 W.length c2 _ (h.below HB4 (Nat.le_refl _)).r1 hpar hn1 hn2).mono ?_
      rintro e w5 ⟨Ae, ce, rfl, oe, b5⟩
      have hle := enTo_len P P.length
      change (endL P).length ≤ _ at hle
      have R0 : PrR w w5 w3.heap.size F.length (stTo P C 0) (.slice A1 P.length c1) (.slice A2 W.length c2) (.slice A3 F.length c3) := by
        have e0 : List.replicate F.length ((0, 0) : Int × Int) = stTo P C 0 := by rw [HFL.out]; rfl
        have o1 := om.mono (B' := w.heap.size + 1) (by omega)
        rw [e0] at o1
        exact ⟨o1.below b5, bx4.below b5, bUp HB4 b5 HB4.size⟩
      have ne : blk Ae ≠ some w3.heap.size := fun e => by
        have h1 := oe.ge _ e
        have h2 : w3.heap.size < w4.heap.size := om.ltk w3.heap.size rfl
        omega
      have oe := oe.mono (B' := w.heap.size + 1) (by have := HB4.size; have h2 : w3.heap.size < w4.heap.size := om.ltk w3.heap.size rfl; omega)
      clear om b4 b5 bx3 bx4 f0 f1 f2 HB3 HB4
      generalize w3.heap.size = go at *
      go_wp2_with fail
      go_loopw [48] (fun i wr => ∃ k : Nat, k ≤ (endL P).length ∧ i = .int .i64 (k : Int) ∧ PrR w wr go F.length (stTo P C k) (.slice A1 P.length c1) (.slice A2 W.length c2) (.slice A3 F.length c3) ∧ Own wr (w.heap.size + 1) Ae ce (endL P)) (fun i _ => (endL P).length - (intOf i).toNat)
      case atStart => exact ⟨0, by omega, rfl, R0, oe⟩
      case round =>
        clear R0 oe
        obtain ⟨k, hkl, rfl, R, oe⟩ := hrel
        obtain ⟨v, rfl⟩ : ∃ v : World, v = wr := ⟨_, rfl⟩
        by_cases hlt : k < (endL P).length
        · obtain ⟨j, hj, hje, hjn⟩ := endL_nth hlt
          obtain ⟨ae, rfl, qe⟩ := oe.rd.intN hlt
          rw [hjn] at qe
          obtain ⟨a7, rfl, q7⟩ := (h7.below R.hb (Nat.le_refl _)).intN (k := k) (by have := HCL.out; omega)
          have HJ := Lib.hid hjn
          clear hjn hje
          have i0 : (0 : Int) ≤ (k : Int) := by omega
          have i1 : (k : Int) < ((endL P).length : Int) := by omega
          have i2 : (k : Int) < (C.length : Int) := by have := HCL.out; omega
          have i3 : (0 : Int) ≤ (j : Int) := by omega
          have i4 : (j : Int) < (F.length : Int) := by have := HFL.out; omega
          obtain ⟨u0, u1, qu0, qu1⟩ := R.o.some2 (k := j) (by rw [stTo_length]; exact hj)
          have z0 := R.o.frozen (j * 2)
          have z1 := R.o.frozen (j * 2 + 1)
          have RS := R.set (nth C k) 1 (k := j) (by rw [stTo_length]; exact hj)
          have oes := oe.grown (R.o.set2 (nth C k) 1 (k := j) (by rw [stTo_length]; exact hj)).2 (.inr (by simpa [blk] using ne))
          have HST : Hid ((stTo P C k).set j (nth C k, 1) = stTo P C (k + 1)) := Lib.hid (by rw [stTo_step, HJ.out, Int.toNat_natCast])
          rw [HST.out] at RS
          go_wp2_with fail
          go_roundw
          case rel => exact ⟨k + 1, hlt, by go_num, RS, oes⟩
          case measure => simp [intOf] <;> omega
        · have hkn : k = (endL P).length := by omega
          subst hkn
          clear oe
          have R0 := R
          clear R
          go_wp2_with fail
          go_loopw [11] (fun i wr => ∃ (k : Nat) (j : Int) (out : List (Int × Int)), k ≤ P.length ∧ j + 1 = (k : Int) ∧ i = .int .i64 j ∧ stL up P F C (P.length - k) = some out ∧ PrInv P k out ∧ PrR w wr go F.length out (.slice A1 P.length c1) (.slice A2 W.length c2) (.slice A3 F.length c3)) (fun i _ => (intOf i + 1).toNat)
          case atStart => exact ⟨P.length, (F.length : Int) - 1, stTo P C (endL P).length, Nat.le_refl _, by have := HFL.out; omega, rfl, by rw [Nat.sub_self]; rfl, inv_start hk.clm, R0⟩
          case round =>
            clear R0
            obtain ⟨k, j, out, hkl, hj, rfl, hst, hiv, R⟩ := hrel
            obtain ⟨v, rfl⟩ : ∃ v : World, v = wr := ⟨_, rfl⟩
            rcases k with _ | x
            · obtain rfl : j = -1 := by omega
              have HO : Hid (prO up P F C = out) := Lib.hid (by rw [prO]; rw [Nat.sub_zero] at hst; rw [hst]; rfl)
              have HK : Hid (prK up P F C = true) := Lib.hid (by rw [prK]; rw [Nat.sub_zero] at hst; rw [hst]; rfl)
              have HL := Lib.hid (show out.length = F.length by rw [hiv.len, HFL.out])
              clear hst
              go_wp2_with fail
              go_ret2
              exact ⟨_, _, by rw [HO.out, HK.out, HL.out] <;> rfl, by rw [HO.out]; exact R.o.mono (by omega), R.hb⟩
            · obtain rfl : j = (x : Int) := by omega
              have hx : x < P.length := by omega
              have HST := Lib.hid (stL_step hx hst)
              have HSN := Lib.hid (@stL_none up P F C (P.length - x))
              have HZP := Lib.hid (stL_z hk.clm _ _ hst)
              have hj2 := hj
              clear hst hj
              obtain ⟨f0, f1, f2, fz⟩ := id R.b
              have h' := h.below R.hb (Nat.le_refl _)
              go_wp2_with fail
              refine (beside_c A1 P c1 A2 W.length c2 A3 F c3 x v h'.r1 h'.r3 hn2 HFL.out hx).mono ?_
              rintro e w6 ⟨A5, c5, A6, c6, A8, c8, rfl, k5, k6, k7, b6⟩
              have R6 := R.below b6
              have hl := R.lt
              have ha7 : Below w6.heap.size w6 (w6.alloc (.cells #[] 40)) := (Below.refl _ _).alloc (Nat.le_refl _) _
              have hz6 := b6.size
              have I0 : PiR w (w6.alloc (.cells #[] 40)) go out F.length w6.heap.size 0 (imS P F out x 0) A5 c5 (lessL P F x) A6 c6 (sameL P F x) A8 c8 (moreL P F x) (.slice A1 P.length c1) (.slice A2 W.length c2) (.slice A3 F.length c3) :=
                ⟨(OwnP.lit w6 [] (by simp)).mono (by omega), (k5.below ha7).mono (by omega), (k6.below ha7).mono (by omega), (k7.below ha7).mono (by omega), (fun e => by have := k5.ltk _ e; omega), (fun e => by have := k6.ltk _ e; omega), (fun e => by have := k7.ltk _ e; omega), R6.below ha7⟩
              have hs24 := side24 (F := F) (x := x) hn2
              clear k5 k6 k7 b6 R6 R f0 f1 f2 fz ha7 h' hl hz6
              go_wp2_with fail
              generalize w6.alloc (.cells #[] 40) = wa at *
              generalize w6.heap.size = ga at *
              go_loopw [15, 79] (fun t i wr => ∃ (m g c : Nat), m ≤ (sameL P F x).length ∧ i = .int .i64 (m : Int) ∧ t = .slice (some ⟨g, 0, none⟩) (imS P F out x m).length c ∧ PiR w wr go out F.length g c (imS P F out x m) A5 c5 (lessL P F x) A6 c6 (sameL P F x) A8 c8 (moreL P F x) (.slice A1 P.length c1) (.slice A2 W.length c2) (.slice A3 F.length c3)) (fun _ i _ => (sameL P F x).length - (intOf i).toNat)
              case atStart => exact ⟨0, ga, 0, by omega, rfl, rfl, I0⟩
              case round =>
                clear I0
                obtain ⟨m, g, c, hml, rfl, rfl, I⟩ := hrel
                obtain ⟨u, rfl⟩ : ∃ u : World, u = wr := ⟨_, rfl⟩
                by_cases hmt : m < (sameL P F x).length
                · obtain ⟨y, hy, hxy, hyl⟩ := same_kid hpar hmt
                  obtain ⟨a6, rfl, q6⟩ := I.k6.rd.intN hmt
                  rw [hy] at q6
                  have HS := Lib.hid (imS_yes (out := out) hmt hy)
                  clear hy
                  obtain ⟨qo1, qo2⟩ := I.R.o.cells (k := y) (by rw [hiv.len]; exact hyl)
                  have m1 : (m : Int) < ((sameL P F x).length : Int) := by omega
                  have m0 : (0 : Int) ≤ (m : Int) := by omega
                  have y0 : (0 : Int) ≤ (y : Int) := by omega
                  have y1 : (y : Int) < (F.length : Int) := by have := HFL.out; omega
                  have hsl := imS_len P F out x m
                  have osrc := (OwnP.lit u [nP out y] (by simp)).src
                  have Ia := I.below ((Below.refl _ _).alloc (Nat.le_refl _) (.cells #[.int .i64 (pT out y), .int .i64 (pB out y)] 40))
                  go_wp2_with (at_builtin; refine wp_append_pairs _ rfl _ _ rfl (go + 1) (some ⟨g, 0, none⟩) _ c (imS P F out x m) rfl rfl Ia.o _ 1 1 [nP out y] rfl rfl osrc (by simp; omega) Ia.lt.2.2 (by simp) ?_; intro g2 c2' w5 ho5 hg5 hx5)
                  have I5 := Ia.push ho5 hg5 hx5
                  rw [← HS.out] at I5
                  go_roundw
                  case rel => exact ⟨m + 1, g2, c2', by omega, by go_num, by rw [HS.out, List.length_append]; rfl, I5⟩
                  case measure => simp [intOf] <;> omega
                · have hmk : m = (sameL P F x).length := by omega
                  subst hmk
                  rw [← imA_zero] at I
                  have HA0 := Lib.hid (imA_zero (P := P) (F := F) (out := out) (x := x))
                  rw [← HA0.out]
                  have I0 := I
                  clear I
                  go_wp2_with fail
                  go_loopw [15, 93] (fun t i wr => ∃ (m g c : Nat), m ≤ (lessL P F x).length ∧ i = .int .i64 (m : Int) ∧ t = .slice (some ⟨g, 0, none⟩) (imA P F out x m).length c ∧ PiR w wr go out F.length g c (imA P F out x m) A5 c5 (lessL P F x) A6 c6 (sameL P F x) A8 c8 (moreL P F x) (.slice A1 P.length c1) (.slice A2 W.length c2) (.slice A3 F.length c3) ∧
                      (∀ p, p < m → ∀ q, q < (moreL P F x).length → frP (btw F out x (nth (lessL P F x) p).toNat (nth (moreL P F x) q).toNat) = true)) (fun _ i _ => (lessL P F x).length - (intOf i).toNat)
                  case atStart => exact ⟨0, _, _, by omega, rfl, rfl, I0, fun p hp => by omega⟩
                  case round =>
                    clear I0
                    obtain ⟨m, g, c, hml, rfl, rfl, I, hall⟩ := hrel
                    obtain ⟨u, rfl⟩ : ∃ u : World, u = wr := ⟨_, rfl⟩
                    have HALL := Lib.hid hall
                    clear hall
                    by_cases hmt : m < (lessL P F x).length
                    · obtain ⟨y, hy, hxy, hyl, hyx⟩ := less_kid hpar hmt
                      obtain ⟨a5, rfl, q5⟩ := I.k5.rd.intN hmt
                      rw [hy] at q5
                      have HYM := Lib.hid hy
                      clear hy
                      have m1 : (m : Int) < ((lessL P F x).length : Int) := by omega
                      have m0 : (0 : Int) ≤ (m : Int) := by omega
                      have y0 : (0 : Int) ≤ (y : Int) := by omega
                      have y1 : (y : Int) < (F.length : Int) := by have := HFL.out; omega
                      have HB0 := Lib.hid (imB_zero (P := P) (F := F) (out := out) (x := x) (i := m))
                      rw [← HB0.out] at I ⊢
                      have I0 := I
                      clear I
                      go_wp2_with fail
                      clear q5
                      go_loopw [15, 99] (fun t i wr => ∃ (n g c : Nat), n ≤ (moreL P F x).length ∧ i = .int .i64 (n : Int) ∧ t = .slice (some ⟨g, 0, none⟩) (imB P F out x m n).length c ∧ PiR w wr go out F.length g c (imB P F out x m n) (some a5) c5 (lessL P F x) A6 c6 (sameL P F x) A8 c8 (moreL P F x) (.slice A1 P.length c1) (.slice A2 W.length c2) (.slice A3 F.length c3) ∧
                          (∀ q, q < n → frP (btw F out x y (nth (moreL P F x) q).toNat) = true)) (fun _ i _ => (moreL P F x).length - (intOf i).toNat)
                      case atStart => exact ⟨0, _, _, by omega, rfl, rfl, I0, fun p hp => by omega⟩
                      case round =>
                        clear I0
                        obtain ⟨n, g, c, hnl, rfl, rfl, I, hin⟩ := hrel
                        obtain ⟨v1, rfl⟩ : ∃ v1 : World, v1 = wr := ⟨_, rfl⟩
                        have HIN := Lib.hid hin
                        clear hin
                        by_cases hnt : n < (moreL P F x).length
                        · obtain ⟨z, hz, hxz, hzl, hzx⟩ := more_kid hpar hnt
                          obtain ⟨a8, rfl, q8⟩ := I.k7.rd.intN hnt
                          rw [hz] at q8
                          have HZM := Lib.hid hz
                          clear hz
                          have n1 : (n : Int) < ((moreL P F x).length : Int) := by omega
                          have n0 : (0 : Int) ≤ (n : Int) := by omega
                          have z0 : (0 : Int) ≤ (z : Int) := by omega
                          have z1 : (z : Int) < (F.length : Int) := by have := HFL.out; omega
                          obtain ⟨a3, rfl, qz⟩ := (h.below I.R.hb (Nat.le_refl _)).r3.intN (k := z) (by have := HFL.out; omega)
                          obtain ⟨ax, ex, qx⟩ := (h.below I.R.hb (Nat.le_refl _)).r3.intN (k := x) (by have := HFL.out; omega)
                          cases ex
                          obtain ⟨ay, ey, qy⟩ := (h.below I.R.hb (Nat.le_refl _)).r3.intN (k := y) (by have := HFL.out; omega)
                          cases ey
                          have x0 : (0 : Int) ≤ (x : Int) := by omega
                          have x1 : (x : Int) < (F.length : Int) := by have := HFL.out; omega
                          have px := price_bd hk.f20 x
                          have py := price_bd hk.f20 y
                          have pz := price_bd hk.f20 z
                          have e1 : IntKind.i64.wrap (nth F z - nth F x) = nth F z - nth F x := IntWalk.i64_in _ (by omega)
                          have e2 : IntKind.i64.wrap (nth F x - nth F y) = nth F x - nth F y := IntWalk.i64_in _ (by omega)
                          have HS : Hid (v1.drew.cell? ⟨w.heap.size, 2, none⟩ = some (.slice (some a3) F.length c3) ∧ v1.drew.cell? (a3.add z) = some (.int .i64 (nth F z)) ∧ v1.drew.cell? (a3.add x) = some (.int .i64 (nth F x)) ∧ v1.drew.cell? (a3.add y) = some (.int .i64 (nth F y))) := Lib.hid ⟨I.R.b.2.2.1, qz, qx, qy⟩
                          clear qz qx qy
                          go_upto_region 25 with fail
                          clear q8
                          have hS0 := HS.out
                          refine tamed_region (S := fun w' => w'.cell? ⟨w.heap.size, 2, none⟩ = some (.slice (some a3) F.length c3) ∧ w'.cell? (a3.add z) = some (.int .i64 (nth F z)) ∧ w'.cell? (a3.add x) = some (.int .i64 (nth F x)) ∧ w'.cell? (a3.add y) = some (.int .i64 (nth F y))) (fun _ => false) (by kernel_rfl) ?_
                          refine tame0 (k := 0) ?_ rfl (by kernel_rfl) (by kernel_rfl) (by kernel_rfl) (fun _ _ _ h => h) (by kernel_rfl) (fun v => ?_) ?_
                          rotate_left
                          · (go_simp; all_goals rfl)
                          simp only [Act.put, List.setIfInBounds_toArray]
                          refine tame (k := 1) ?_ rfl (by kernel_rfl) (by kernel_rfl) (by kernel_rfl) (by kernel_rfl) (fun _ _ _ h => h) (by kernel_rfl) hS0 (fun v hv => ?_) ?_
                          rotate_left
                          · (obtain ⟨k1, k2, k3, k4⟩ := hv; go_simp; all_goals rfl)
                          simp only [Act.put]
                          refine tame0 (k := 2) ?_ rfl (by kernel_rfl) (by kernel_rfl) (by kernel_rfl) (fun _ _ _ h => h) (by kernel_rfl) (fun v => ?_) ?_
                          rotate_left
                          · (go_simp; all_goals rfl)
                          simp only [Act.put]
                          refine tame0 (k := 3) ?_ rfl (by kernel_rfl) (by kernel_rfl) (by kernel_rfl) (fun _ _ _ h => h) (by kernel_rfl) (fun v => ?_) ?_
                          rotate_left
                          · (go_simp; all_goals rfl)
                          simp only [Act.put]
                          refine tame (k := 4) ?_ rfl (by kernel_rfl) (by kernel_rfl) (by kernel_rfl) (by kernel_rfl) (fun _ _ _ h => h) (by kernel_rfl) hS0 (fun v hv => ?_) ?_
                          rotate_left
                          · (obtain ⟨k1, k2, k3, k4⟩ := hv; go_simp; all_goals rfl)
                          simp only [Act.put]
                          refine tame0 (k := 5) ?_ rfl (by kernel_rfl) (by kernel_rfl) (by kernel_rfl) (fun _ _ _ h => h) (by kernel_rfl) (fun v => ?_) ?_
                          rotate_left
                          · (go_simp; all_goals rfl)
                          simp only [Act.put]
                          refine tame (k := 6) ?_ rfl (by kernel_rfl) (by kernel_rfl) (by kernel_rfl) (by kernel_rfl) (fun _ _ _ h => h) (by kernel_rfl) hS0 (fun v hv => ?_) ?_
                          rotate_left
                          · (obtain ⟨k1, k2, k3, k4⟩ := hv; go_simp; all_goals rfl)
                          simp only [Act.put]
                          refine tame0 (k := 7) ?_ rfl (by kernel_rfl) (by kernel_rfl) (by kernel_rfl) (fun _ _ _ h => h) (by kernel_rfl) (fun v => ?_) ?_
                          rotate_left
                          · (go_simp; all_goals rfl)
                          simp only [Act.put]
                          refine tame0 (k := 8) ?_ rfl (by kernel_rfl) (by kernel_rfl) (by kernel_rfl) (fun _ _ _ h => h) (by kernel_rfl) (fun v => ?_) ?_
                          rotate_left
                          · (go_simp; all_goals rfl)
                          simp only [Act.put]
                          refine tame (k := 9) ?_ rfl (by kernel_rfl) (by kernel_rfl) (by kernel_rfl) (by kernel_rfl) (fun _ _ _ h => h) (by kernel_rfl) hS0 (fun v hv => ?_) ?_
                          rotate_left
                          · (obtain ⟨k1, k2, k3, k4⟩ := hv; go_simp; all_goals rfl)
                          simp only [Act.put]
                          refine tame0 (k := 10) ?_ rfl (by kernel_rfl) (by kernel_rfl) (by kernel_rfl) (fun _ _ _ h => h) (by kernel_rfl) (fun v => ?_) ?_
                          rotate_left
                          · (go_simp; all_goals rfl)
                          simp only [Act.put]
                          refine tame0 (k := 11) ?_ rfl (by kernel_rfl) (by kernel_rfl) (by kernel_rfl) (fun _ _ _ h => h) (by kernel_rfl) (fun v => ?_) ?_
                          rotate_left
                          · (go_simp; all_goals rfl)
                          simp only [Act.put]
                          refine tame (k := 12) ?_ rfl (by kernel_rfl) (by kernel_rfl) (by kernel_rfl) (by kernel_rfl) (fun _ _ _ h => h) (by kernel_rfl) hS0 (fun v hv => ?_) ?_
                          rotate_left
                          · (obtain ⟨k1, k2, k3, k4⟩ := hv; go_simp; all_goals rfl)
                          simp only [Act.put]
                          refine tame0 (k := 13) ?_ rfl (by kernel_rfl) (by kernel_rfl) (by kernel_rfl) (fun _ _ _ h => h) (by kernel_rfl) (fun v => ?_) ?_
                          rotate_left
                          · (go_simp; all_goals rfl)
                          simp only [Act.put]
                          refine tame0 (k := 14) ?_ rfl (by kernel_rfl) (by kernel_rfl) (by kernel_rfl) (fun _ _ _ h => h) (by kernel_rfl) (fun v => ?_) ?_
                          rotate_left
                          · (go_simp; all_goals rfl)
                          simp only [Act.put]
                          refine tame (k := 15) ?_ rfl (by kernel_rfl) (by kernel_rfl) (by kernel_rfl) (by kernel_rfl) (fun _ _ _ h => h) (by kernel_rfl) hS0 (fun v hv => ?_) ?_
                          rotate_left
                          · (obtain ⟨k1, k2, k3, k4⟩ := hv; go_simp; all_goals rfl)
                          simp only [Act.put]
                          refine tame0 (k := 16) ?_ rfl (by kernel_rfl) (by kernel_rfl) (by kernel_rfl) (fun _ _ _ h => h) (by kernel_rfl) (fun v => ?_) ?_
                          rotate_left
                          · (go_simp; all_goals rfl)
                          simp only [Act.put]
                          refine tame (k := 17) ?_ rfl (by kernel_rfl) (by kernel_rfl) (by kernel_rfl) (by kernel_rfl) (fun _ _ _ h => h) (by kernel_rfl) hS0 (fun v hv => ?_) ?_
                          rotate_left
                          · (obtain ⟨k1, k2, k3, k4⟩ := hv; go_simp; all_goals rfl)
                          simp only [Act.put]
                          refine tame0 (k := 18) ?_ rfl (by kernel_rfl) (by kernel_rfl) (by kernel_rfl) (fun _ _ _ h => h) (by kernel_rfl) (fun v => ?_) ?_
                          rotate_left
                          · (go_simp; all_goals rfl)
                          simp only [Act.put]
                          refine tame0 (k := 19) ?_ rfl (by kernel_rfl) (by kernel_rfl) (by kernel_rfl) (fun _ _ _ h => h) (by kernel_rfl) (fun v => ?_) ?_
                          rotate_left
                          · (go_simp; all_goals rfl)
                          simp only [Act.put]
                          refine tame (k := 20) ?_ rfl (by kernel_rfl) (by kernel_rfl) (by kernel_rfl) (by kernel_rfl) (fun _ _ _ h => h) (by kernel_rfl) hS0 (fun v hv => ?_) ?_
                          rotate_left
                          · (obtain ⟨k1, k2, k3, k4⟩ := hv; go_simp; all_goals rfl)
                          simp only [Act.put]
                          refine tame0 (k := 21) ?_ rfl (by kernel_rfl) (by kernel_rfl) (by kernel_rfl) (fun _ _ _ h => h) (by kernel_rfl) (fun v => ?_) ?_
                          rotate_left
                          · (go_simp; all_goals rfl)
                          simp only [Act.put]
                          clear hS0
                          refine tame_one (k := 22) (by kernel_rfl) rfl (by kernel_rfl) ?_
                          go_simp
                          refine ⟨by first | exact HS.out, ?_⟩
                          refine tame_one (k := 23) (by kernel_rfl) rfl (by kernel_rfl) ?_
                          go_simp
                          refine ⟨by first | exact HS.out, ?_⟩
                          refine tame_end (by kernel_rfl) ?_
                          clear HS
                          obtain ⟨v2, hv2⟩ : ∃ v2 : World, v2 = v1.drew := ⟨_, rfl⟩
                          have I := I.below (w' := v1.drew) (Below.drew (Below.refl _ _))
                          rw [← hv2] at I ⊢
                          clear hv2
                          go_upto_region 26 with fail
                          go_cut [24, 25] from 100 to 167 (fun s24 s25 wx => ∃ gf gg : Nat, s24 = .pointer (some ⟨gf, 0, none⟩) ∧ s25 = .pointer (some ⟨gg, 0, none⟩) ∧ Bx wx gf (.int .i64 (pT out y)) (.int .i64 (pB out y)) ∧ Bx wx gg (.int .i64 (pT out z)) (.int .i64 (pB out z)) ∧ PiR w wx go out F.length g c (imB P F out x m n) (some a5) c5 (lessL P F x) A6 c6 (sameL P F x) (some a8) c8 (moreL P F x) (.slice A1 P.length c1) (.slice A2 W.length c2) (.slice (some a3) F.length c3))
                          case first =>
                            have oc : ∀ w', Below v2.heap.size v2 w' → (w'.cell? ⟨go, y * 2, none⟩ = some (.int .i64 (pT out y)) ∧ w'.cell? ⟨go, y * 2 + 1, none⟩ = some (.int .i64 (pB out y))) ∧ w'.cell? ⟨go, z * 2, none⟩ = some (.int .i64 (pT out z)) ∧ w'.cell? ⟨go, z * 2 + 1, none⟩ = some (.int .i64 (pB out z)) := fun w' hb => ⟨(I.below hb).R.o.cells (by rw [hiv.len]; exact hyl), (I.below hb).R.o.cells (by rw [hiv.len]; exact hzl)⟩
                            have SK := Lib.hid oc
                            have hS0 := oc v2.drew (Below.drew (Below.refl _ _))
                            clear oc
                            refine tamed_region (S := fun w' => (w'.cell? ⟨go, y * 2, none⟩ = some (.int .i64 (pT out y)) ∧ w'.cell? ⟨go, y * 2 + 1, none⟩ = some (.int .i64 (pB out y))) ∧ w'.cell? ⟨go, z * 2, none⟩ = some (.int .i64 (pT out z)) ∧ w'.cell? ⟨go, z * 2 + 1, none⟩ = some (.int .i64 (pB out z))) (fun _ => false) (by kernel_rfl) ?_
                            refine tame0 (k := 0) ?_ rfl (by kernel_rfl) (by kernel_rfl) (by kernel_rfl) (fun _ _ _ h => h) (by kernel_rfl) (fun v => ?_) ?_
                            rotate_left
                            · (go_simp; all_goals rfl)
                            simp only [Act.put, List.setIfInBounds_toArray]
                            refine tame0 (k := 1) ?_ rfl (by kernel_rfl) (by kernel_rfl) (by kernel_rfl) (fun _ _ _ h => h) (by kernel_rfl) (fun v => ?_) ?_
                            rotate_left
                            · (go_simp; all_goals rfl)
                            simp only [Act.put]
                            refine tame0 (k := 2) ?_ rfl (by kernel_rfl) (by kernel_rfl) (by kernel_rfl) (fun _ _ _ h => h) (by kernel_rfl) (fun v => ?_) ?_
                            rotate_left
                            · (go_simp; all_goals rfl)
                            simp only [Act.put]
                            refine tame (k := 3) ?_ rfl (by kernel_rfl) (by kernel_rfl) (by kernel_rfl) (by kernel_rfl) (fun _ _ _ h => h) (by kernel_rfl) hS0 (fun v hv => ?_) ?_
                            rotate_left
                            · (obtain ⟨⟨k1, k2⟩, k3, k4⟩ := hv; go_simp; all_goals rfl)
                            simp only [Act.put]
                            refine tame0 (k := 4) ?_ rfl (by kernel_rfl) (by kernel_rfl) (by kernel_rfl) (fun _ _ _ h => h) (by kernel_rfl) (fun v => ?_) ?_
                            rotate_left
                            · (go_simp; all_goals rfl)
                            simp only [Act.put]
                            refine tame0 (k := 5) ?_ rfl (by kernel_rfl) (by kernel_rfl) (by kernel_rfl) (fun _ _ _ h => h) (by kernel_rfl) (fun v => ?_) ?_
                            rotate_left
                            · (go_simp; all_goals rfl)
                            simp only [Act.put]
                            refine tame0 (k := 6) ?_ rfl (by kernel_rfl) (by kernel_rfl) (by kernel_rfl) (fun _ _ _ h => h) (by kernel_rfl) (fun v => ?_) ?_
                            rotate_left
                            · (go_simp; all_goals rfl)
                            simp only [Act.put]
                            refine tame (k := 7) ?_ rfl (by kernel_rfl) (by kernel_rfl) (by kernel_rfl) (by kernel_rfl) (fun _ _ _ h => h) (by kernel_rfl) hS0 (fun v hv => ?_) ?_
                            rotate_left
                            · (obtain ⟨⟨k1, k2⟩, k3, k4⟩ := hv; go_simp; all_goals rfl)
                            simp only [Act.put]
                            clear hS0
                            refine tame_two (i := 8) (j := 9) (by kernel_rfl) rfl rfl (by kernel_rfl) (by kernel_rfl) ?_ ?_
                            · go_simp
                              have H8 : Below v2.heap.size v2 (v2.alloc (.cells #[.int .i64 0, .int .i64 0] 40)) := (Below.refl _ _).alloc (Nat.le_refl _) _
                              have b8 : Bx (v2.alloc (.cells #[.int .i64 0, .int .i64 0] 40)) v2.heap.size (.int .i64 0) (.int .i64 0) := Bx.new v2 _ _ _
                              refine ⟨by first | exact SK.out _ H8 | exact (show _ from SK.out _ H8), ?_⟩
                              refine tame_one (k := 9) (by kernel_rfl) rfl (by kernel_rfl) ?_
                              go_simp
                              have H9 : Below v2.heap.size v2 ((v2.alloc (.cells #[.int .i64 0, .int .i64 0] 40)).alloc (.cells #[.int .i64 0, .int .i64 0] 40)) := H8.alloc H8.size _
                              have b9 : Bx ((v2.alloc (.cells #[.int .i64 0, .int .i64 0] 40)).alloc (.cells #[.int .i64 0, .int .i64 0] 40)) v2.heap.size (.int .i64 0) (.int .i64 0) := b8.alloc _
                              have d9 : Bx ((v2.alloc (.cells #[.int .i64 0, .int .i64 0] 40)).alloc (.cells #[.int .i64 0, .int .i64 0] 40)) (v2.heap.size + 1) (.int .i64 0) (.int .i64 0) := by
                                have := Bx.new (v2.alloc (.cells #[.int .i64 0, .int .i64 0] 40)) (.int .i64 0) (.int .i64 0) 40
                                rw [World.size_alloc] at this
                                exact this
                              refine ⟨by first | exact SK.out _ H9 | exact (show _ from SK.out _ H9), ?_⟩
                              clear b8 H8
                              obtain ⟨w9, hw9⟩ : ∃ w9 : World, w9 = ((v2.alloc (.cells #[.int .i64 0, .int .i64 0] 40)).alloc (.cells #[.int .i64 0, .int .i64 0] 40)).drew := ⟨_, rfl⟩
                              have b9 : Bx ((v2.alloc (.cells #[.int .i64 0, .int .i64 0] 40)).alloc (.cells #[.int .i64 0, .int .i64 0] 40)).drew v2.heap.size (.int .i64 0) (.int .i64 0) := b9
                              have d9 : Bx ((v2.alloc (.cells #[.int .i64 0, .int .i64 0] 40)).alloc (.cells #[.int .i64 0, .int .i64 0] 40)).drew (v2.heap.size + 1) (.int .i64 0) (.int .i64 0) := d9
                              have H9 : Below v2.heap.size v2 ((v2.alloc (.cells #[.int .i64 0, .int .i64 0] 40)).alloc (.cells #[.int .i64 0, .int .i64 0] 40)).drew := Below.drew H9
                              rw [← hw9] at b9 d9 H9 ⊢
                              clear hw9
                              obtain ⟨p0, p1, p2, p3, p4⟩ := id b9
                              obtain ⟨r0, r1, r2, r3, r4⟩ := id d9
                              refine tame_one (k := 10) (by kernel_rfl) rfl (by kernel_rfl) ?_
                              go_simp
                              have g10 := (grown_setCell w9 ⟨v2.heap.size, 0, none⟩ (.int .i64 (pT out y))).trans (grown_setCell (w9.setCell ⟨v2.heap.size, 0, none⟩ (.int .i64 (pT out y))) ⟨v2.heap.size, 1, none⟩ (.int .i64 (pB out y)))
                              have f10 := bx_put b9 (.int .i64 (pT out y)) (.int .i64 (pB out y))
                              have s10 := d9.grown g10 (by simp)
                              have H10 := (H9.setCell (p := ⟨v2.heap.size, 0, none⟩) (by simp) (.int .i64 (pT out y))).setCell (p := ⟨v2.heap.size, 1, none⟩) (by simp) (.int .i64 (pB out y))
                              refine ⟨by first | exact SK.out _ H10 | exact SK.out _ H9, ?_⟩
                              obtain ⟨w10, hw10⟩ : ∃ w10 : World, w10 = (w9.setCell ⟨v2.heap.size, 0, none⟩ (.int .i64 (pT out y))).setCell ⟨v2.heap.size, 1, none⟩ (.int .i64 (pB out y)) := ⟨_, rfl⟩
                              rw [← hw10] at f10 s10 H10 ⊢
                              clear hw10 g10 p0 p1 p2 p3 p4 r0 r1 r2 r3 r4 b9 d9
                              obtain ⟨r0, r1, r2, r3, r4⟩ := id s10
                              refine tame_one (k := 11) (by kernel_rfl) rfl (by kernel_rfl) ?_
                              go_simp
                              have g11 := (grown_setCell w10 ⟨v2.heap.size + 1, 0, none⟩ (.int .i64 (pT out z))).trans (grown_setCell (w10.setCell ⟨v2.heap.size + 1, 0, none⟩ (.int .i64 (pT out z))) ⟨v2.heap.size + 1, 1, none⟩ (.int .i64 (pB out z)))
                              have s11 := bx_put s10 (.int .i64 (pT out z)) (.int .i64 (pB out z))
                              have f11 := f10.grown g11 (by simp)
                              have H11 := (H10.setCell (p := ⟨v2.heap.size + 1, 0, none⟩) (by simp) (.int .i64 (pT out z))).setCell (p := ⟨v2.heap.size + 1, 1, none⟩) (by simp) (.int .i64 (pB out z))
                              refine ⟨by first | exact SK.out _ H11 | exact SK.out _ H10, ?_⟩
                              refine tame_end (by kernel_rfl) ?_
                              go_wp2_with fail
                              go_meet
                              exact ⟨_, _, rfl, rfl, f11, s11, I.below H11⟩
                            · go_simp
                              have H8 : Below v2.heap.size v2 (v2.alloc (.cells #[.int .i64 0, .int .i64 0] 40)) := (Below.refl _ _).alloc (Nat.le_refl _) _
                              have b8 : Bx (v2.alloc (.cells #[.int .i64 0, .int .i64 0] 40)) v2.heap.size (.int .i64 0) (.int .i64 0) := Bx.new v2 _ _ _
                              refine ⟨by first | exact SK.out _ H8 | exact (show _ from SK.out _ H8), ?_⟩
                              refine tame_one (k := 8) (by kernel_rfl) rfl (by kernel_rfl) ?_
                              go_simp
                              have H9 : Below v2.heap.size v2 ((v2.alloc (.cells #[.int .i64 0, .int .i64 0] 40)).alloc (.cells #[.int .i64 0, .int .i64 0] 40)) := H8.alloc H8.size _
                              have b9 : Bx ((v2.alloc (.cells #[.int .i64 0, .int .i64 0] 40)).alloc (.cells #[.int .i64 0, .int .i64 0] 40)) v2.heap.size (.int .i64 0) (.int .i64 0) := b8.alloc _
                              have d9 : Bx ((v2.alloc (.cells #[.int .i64 0, .int .i64 0] 40)).alloc (.cells #[.int .i64 0, .int .i64 0] 40)) (v2.heap.size + 1) (.int .i64 0) (.int .i64 0) := by
                                have := Bx.new (v2.alloc (.cells #[.int .i64 0, .int .i64 0] 40)) (.int .i64 0) (.int .i64 0) 40
                                rw [World.size_alloc] at this
                                exact this
                              refine ⟨by first | exact SK.out _ H9 | exact (show _ from SK.out _ H9), ?_⟩
                              clear b8 H8
                              obtain ⟨w9, hw9⟩ : ∃ w9 : World, w9 = ((v2.alloc (.cells #[.int .i64 0, .int .i64 0] 40)).alloc (.cells #[.int .i64 0, .int .i64 0] 40)).drew := ⟨_, rfl⟩
                              have b9 : Bx ((v2.alloc (.cells #[.int .i64 0, .int .i64 0] 40)).alloc (.cells #[.int .i64 0, .int .i64 0] 40)).drew v2.heap.size (.int .i64 0) (.int .i64 0) := b9
                              have d9 : Bx ((v2.alloc (.cells #[.int .i64 0, .int .i64 0] 40)).alloc (.cells #[.int .i64 0, .int .i64 0] 40)).drew (v2.heap.size + 1) (.int .i64 0) (.int .i64 0) := d9
                              have H9 : Below v2.heap.size v2 ((v2.alloc (.cells #[.int .i64 0, .int .i64 0] 40)).alloc (.cells #[.int .i64 0, .int .i64 0] 40)).drew := Below.drew H9
                              rw [← hw9] at b9 d9 H9 ⊢
                              clear hw9
                              obtain ⟨p0, p1, p2, p3, p4⟩ := id b9
                              obtain ⟨r0, r1, r2, r3, r4⟩ := id d9
                              refine tame_one (k := 10) (by kernel_rfl) rfl (by kernel_rfl) ?_
                              go_simp
                              have g10 := (grown_setCell w9 ⟨v2.heap.size + 1, 0, none⟩ (.int .i64 (pT out y))).trans (grown_setCell (w9.setCell ⟨v2.heap.size + 1, 0, none⟩ (.int .i64 (pT out y))) ⟨v2.heap.size + 1, 1, none⟩ (.int .i64 (pB out y)))
                              have f10 := bx_put d9 (.int .i64 (pT out y)) (.int .i64 (pB out y))
                              have s10 := b9.grown g10 (by simp)
                              have H10 := (H9.setCell (p := ⟨v2.heap.size + 1, 0, none⟩) (by simp) (.int .i64 (pT out y))).setCell (p := ⟨v2.heap.size + 1, 1, none⟩) (by simp) (.int .i64 (pB out y))
                              refine ⟨by first | exact SK.out _ H10 | exact SK.out _ H9, ?_⟩
                              obtain ⟨w10, hw10⟩ : ∃ w10 : World, w10 = (w9.setCell ⟨v2.heap.size + 1, 0, none⟩ (.int .i64 (pT out y))).setCell ⟨v2.heap.size + 1, 1, none⟩ (.int .i64 (pB out y)) := ⟨_, rfl⟩
                              rw [← hw10] at f10 s10 H10 ⊢
                              clear hw10 g10 p0 p1 p2 p3 p4 r0 r1 r2 r3 r4 b9 d9
                              obtain ⟨r0, r1, r2, r3, r4⟩ := id s10
                              refine tame_one (k := 11) (by kernel_rfl) rfl (by kernel_rfl) ?_
                              go_simp
                              have g11 := (grown_setCell w10 ⟨v2.heap.size, 0, none⟩ (.int .i64 (pT out z))).trans (grown_setCell (w10.setCell ⟨v2.heap.size, 0, none⟩ (.int .i64 (pT out z))) ⟨v2.heap.size, 1, none⟩ (.int .i64 (pB out z)))
                              have s11 := bx_put s10 (.int .i64 (pT out z)) (.int .i64 (pB out z))
                              have f11 := f10.grown g11 (by simp)
                              have H11 := (H10.setCell (p := ⟨v2.heap.size, 0, none⟩) (by simp) (.int .i64 (pT out z))).setCell (p := ⟨v2.heap.size, 1, none⟩) (by simp) (.int .i64 (pB out z))
                              refine ⟨by first | exact SK.out _ H11 | exact SK.out _ H10, ?_⟩
                              refine tame_end (by kernel_rfl) ?_
                              go_wp2_with fail
                              go_meet
                              exact ⟨_, _, rfl, rfl, f11, s11, I.below H11⟩
                          case rest =>
                            obtain ⟨gf, gg, rfl, rfl, bf, bg, I⟩ := hcut
                            have heF : endB P x = false := by
                              cases he : endB P x
                              · rfl
                              · have := (side_none (F := F) he).1
                                omega
                            have fy := hiv.fr y hyl (.inl (by omega))
                            have fz := hiv.fr z hzl (.inl (by omega))
                            have bdX := btX_bd hk.f20 (x := x) fy fz
                            have bdY := btY_bd hk.f20 (x := x) (Int.lt_trans hyx hzx) fy fz
                            have CL := lowest_c (btX F out x y z) (btY F out x y z) (by omega) (by omega) (by omega) (by omega)
                            have fyb := frP_iff.1 fy
                            have fzb := frP_iff.1 fz
                            rw [nP_pair] at fyb fzb
                            simp only at fyb fzb
                            have m1 := mulAbs2 (x := pT out y) (y := nth F z - nth F x) (A := 1000000000) (B := 20) fyb.1 (by omega) (by decide) (by decide)
                            have m2 := mulAbs2 (x := pT out z) (y := nth F x - nth F y) (A := 1000000000) (B := 20) fzb.1 (by omega) (by decide) (by decide)
                            have m3 := mulAbs2 (x := pT out y * (nth F z - nth F x)) (y := pB out z) (A := 20000000000) (B := 1000000) (by omega) (by omega) (by decide) (by decide)
                            have m4 := mulAbs2 (x := pT out z * (nth F x - nth F y)) (y := pB out y) (A := 20000000000) (B := 1000000) (by omega) (by omega) (by decide) (by decide)
                            have m5 := mulAbs2 (x := nth F z - nth F y) (y := pB out y) (A := 20) (B := 1000000) (by omega) (by omega) (by decide) (by decide)
                            have m6 := mulAbs2 (x := (nth F z - nth F y) * pB out y) (y := pB out z) (A := 20000000) (B := 1000000) (by omega) (by omega) (by decide) (by decide)
                            have e3 : IntKind.i64.wrap (pT out y * (nth F z - nth F x)) = pT out y * (nth F z - nth F x) := IntWalk.i64_in _ (by omega)
                            have e4 : IntKind.i64.wrap (pT out y * (nth F z - nth F x) * pB out z) = pT out y * (nth F z - nth F x) * pB out z := IntWalk.i64_in _ (by omega)
                            have e5 : IntKind.i64.wrap (pT out z * (nth F x - nth F y)) = pT out z * (nth F x - nth F y) := IntWalk.i64_in _ (by omega)
                            have e6 : IntKind.i64.wrap (pT out z * (nth F x - nth F y) * pB out y) = pT out z * (nth F x - nth F y) * pB out y := IntWalk.i64_in _ (by omega)
                            have e7 : IntKind.i64.wrap (pT out y * (nth F z - nth F x) * pB out z + pT out z * (nth F x - nth F y) * pB out y) = btX F out x y z := IntWalk.i64_in _ (by omega)
                            have e8 : IntKind.i64.wrap (nth F z - nth F x + (nth F x - nth F y)) = nth F z - nth F y := by
                              rw [show nth F z - nth F x + (nth F x - nth F y) = nth F z - nth F y by omega]
                              exact IntWalk.i64_in _ (by omega)
                            have e9 : IntKind.i64.wrap ((nth F z - nth F y) * pB out y) = (nth F z - nth F y) * pB out y := IntWalk.i64_in _ (by omega)
                            have e10 : IntKind.i64.wrap ((nth F z - nth F y) * pB out y * pB out z) = btY F out x y z := IntWalk.i64_in _ (by omega)
                            have HLT : Hid (m < (lessL P F x).length) := Lib.hid hmt
                            obtain ⟨q0, q1, t0, t1, t2⟩ := id bf
                            obtain ⟨q2, q3, t3, t4, t5⟩ := id bg
                            clear m1 m2 m3 m4 m5 m6 fyb fzb bdX bdY fy fz e1 e2 px py pz bf bg hyx hzx
                            cases hlw : lwOk (btX F out x y z) (btY F out x y z)
                            · rw [hlw] at CL
                              have HNN : Hid (prO up P F C = [] ∧ prK up P F C = false) := Lib.hid (by
                                have hs : stepX up P F x out = none := step_no heF (a := nth (lessL P F x) m) (b := nth (moreL P F x) n) (by rw [nth_eq hmt]; exact List.getElem_mem hmt) (by rw [nth_eq hnt]; exact List.getElem_mem hnt) (by rw [HYM.out, HZM.out, Int.toNat_natCast, Int.toNat_natCast]; exact hlw)
                                have hn := HSN.out (by rw [HST.out, hs]) P.length (by omega)
                                exact ⟨by rw [prO, hn]; rfl, by rw [prK, hn]; rfl⟩)
                              clear hlw
                              go_wp2_with fail
                              refine (CL _).mono ?_
                              rintro e w5 ⟨rfl, b5⟩
                              have I5 := I.below b5
                              clear CL e3 e4 e5 e6 e7 e8 e9 e10 q0 q1 q2 q3 t0 t1 t2 t3 t4 t5
                              go_wp2_with fail
                              go_ret2
                              exact ⟨none, 0, by rw [HNN.out.1, HNN.out.2] <;> rfl, by rw [HNN.out.1]; exact OwnP.nil _ _, I5.R.hb.alloc I5.R.hb.size _⟩
                            · rw [hlw] at CL
                              have HBT : Hid (imB P F out x m (n + 1) = imB P F out x m n ++ [(lwT (btX F out x y z) (btY F out x y z), lwB (btX F out x y z) (btY F out x y z))]) := Lib.hid (by rw [btw_lw hlw]; exact imB_yes hnt HYM.out HZM.out)
                              have HFR : Hid (∀ q, q < n + 1 → frP (btw F out x y (nth (moreL P F x) q).toNat) = true) := Lib.hid fun q hq => by
                                rcases Nat.eq_or_lt_of_le (Nat.lt_succ_iff.1 hq) with rfl | h'
                                · rw [HZM.out, Int.toNat_natCast]
                                  exact hlw
                                · exact HIN.out q h'
                              clear hlw
                              have hbl := imB_len P F out x hn2 m n hmt
                              generalize hLT : lwT (btX F out x y z) (btY F out x y z) = s at *
                              generalize hLB : lwB (btX F out x y z) (btY F out x y z) = t at *
                              clear hLT hLB
                              go_wp2_with fail
                              refine (CL _).mono ?_
                              rintro e w5 ⟨rfl, b5⟩
                              have I5 := (I.below b5).below ((Below.refl _ _).alloc (Nat.le_refl _) (.cells #[.int .i64 s, .int .i64 t] 40))
                              clear CL e3 e4 e5 e6 e7 e8 e9 e10 q0 q1 q2 q3 t0 t1 t2 t3 t4 t5
                              have bq := Bx.new w5 (.int .i64 s) (.int .i64 t) 40
                              obtain ⟨q0, q1, t0, t1, t2⟩ := id bq
                              have osrc := (OwnP.lit (w5.alloc (.cells #[.int .i64 s, .int .i64 t] 40)) [(s, t)] (by simp)).src
                              rw [World.size_alloc] at osrc
                              have Ia := I5.below ((Below.refl _ _).alloc (Nat.le_refl _) (.cells #[.int .i64 s, .int .i64 t] 40))
                              go_wp2_with (at_builtin; refine wp_append_pairs _ rfl _ _ rfl (go + 1) (some ⟨g, 0, none⟩) _ c (imB P F out x m n) rfl rfl Ia.o _ 1 1 [(s, t)] rfl rfl osrc (by simp; omega) Ia.lt.2.2 (by simp) ?_; intro g2 c2' w6 ho6 hg6 hx6)
                              have I6 := Ia.push ho6 hg6 hx6
                              rw [← HBT.out] at I6
                              clear osrc q0 q1 t0 t1 t2 bq Ia I5
                              go_roundw
                              case rel => exact ⟨n + 1, g2, c2', by omega, by go_num, by rw [HBT.out, List.length_append]; rfl, I6, HFR.out⟩
                              case measure => simp [intOf] <;> omega
                        · have hnk : n = (moreL P F x).length := by omega
                          subst hnk
                          have HBA := Lib.hid (imB_all (P := P) (F := F) (out := out) hmt)
                          rw [HBA.out] at I ⊢
                          have HN : Hid (∀ p, p < m + 1 → ∀ q, q < (moreL P F x).length → frP (btw F out x (nth (lessL P F x) p).toNat (nth (moreL P F x) q).toNat) = true) := Lib.hid fun p hp q hq => by
                            rcases Nat.eq_or_lt_of_le (Nat.lt_succ_iff.1 hp) with rfl | h'
                            · rw [HYM.out, Int.toNat_natCast]; exact HIN.out q hq
                            · exact HALL.out p h' q hq
                          go_wp2_with fail
                          go_roundw
                          case rel => exact ⟨m + 1, g, c, by omega, by go_num, rfl, I, HN.out⟩
                          case measure => simp [intOf] <;> omega
                    · have hmk : m = (lessL P F x).length := by omega
                      subst hmk
                      rw [imA_all] at I
                      have HA1 := Lib.hid (imA_all (P := P) (F := F) (out := out) (x := x))
                      rw [HA1.out]
                      cases he : endB P x
                      · have hy : ∀ a ∈ lessL P F x, ∀ b ∈ moreL P F x, frP (btw F out x a.toNat b.toNat) = true := by
                          intro a ha b hb
                          obtain ⟨p, hp, rfl⟩ := List.mem_iff_getElem.1 ha
                          obtain ⟨q, hq, rfl⟩ := List.mem_iff_getElem.1 hb
                          have := HALL.out p hp q hq
                          rw [nth_eq hp, nth_eq hq] at this
                          exact this
                        have hs2 := step_yes (up := up) hpar hiv he (hk.un x hx) hy
                        have HN := Lib.hid (show stL up P F C (P.length - x) = some (out.set x (topOf up (imL P F out x))) by rw [HST.out, hs2])
                        have HI2 := Lib.hid (inv_step hiv hx (hk.un x hx) hs2)
                        have hpos := imL_pos (out := out) he (hk.un x hx)
                        have HFR := Lib.hid (imL_fr hpar hiv hy)
                        have hlen : (imL P F out x).length ≤ 600 := by
                          have h1 := imA_len P F out x hn2 (lessL P F x).length
                          rw [imA_all] at h1
                          omega
                        have HOL : Hid (out.length = F.length) := Lib.hid (by rw [hiv.len, HFL.out])
                        have hxl : x < F.length := by have := HFL.out; omega
                        clear hs2 hy he HALL
                        have R0 : PrR w u go F.length (bsM up x out (imL P F out x) 0) (.slice A1 P.length c1) (.slice A2 W.length c2) (.slice A3 F.length c3) := I.R
                        have oL := I.o
                        have hgo : go + 1 ≤ g ∧ g < u.heap.size ∧ go + 1 ≤ u.heap.size := I.lt
                        clear I
                        generalize imL P F out x = L at *
                        go_wp2_with fail
                        go_loopw [171] (fun i wr => ∃ k : Nat, k ≤ L.length ∧ i = .int .i64 (k : Int) ∧ OwnP wr (go + 1) (some ⟨g, 0, none⟩) c L ∧ PrR w wr go F.length (bsM up x out L k) (.slice A1 P.length c1) (.slice A2 W.length c2) (.slice A3 F.length c3)) (fun i _ => L.length - (intOf i).toNat)
                        case atStart => exact ⟨0, by omega, rfl, oL, R0⟩
                        case round =>
                          clear R0 oL
                          obtain ⟨k, hkl, rfl, oL, R⟩ := hrel
                          obtain ⟨u1, rfl⟩ : ∃ u1 : World, u1 = wr := ⟨_, rfl⟩
                          by_cases hkt : k < L.length
                          · have hmem : nP L k ∈ L := nP_mem hkt
                            have fb := frP_iff.1 (HFR.out _ hmem)
                            have ob := zP_bd (bsM_z (up := up) (x := x) (by rw [HOL.out]; exact hxl) HZP.out HFR.out (Nat.le_of_lt hkt))
                            rw [nP_pair] at fb ob
                            simp only at fb ob
                            have HLX : Hid (x < (bsM up x out L k).length) := Lib.hid (by rw [bsM_len, HOL.out]; exact hxl)
                            obtain ⟨q, hq⟩ : ∃ q, q = cmpI (pT L k, pB L k) (pT (bsM up x out L k) x, pB (bsM up x out L k) x) := ⟨_, rfl⟩
                            have C := compared_c (pT L k) (pB L k) (pT (bsM up x out L k) x) (pB (bsM up x out L k) x) fb.1 ⟨by omega, fb.2.1.2⟩ ob.1 ob.2
                            rw [← hq] at C
                            have HUP : Hid (up = true → ((q > 0) = (betP up (nP L k) (nP (bsM up x out L k) x) = true))) := Lib.hid (by intro hu; rw [hu, hq, hu]; exact cmp_up)
                            have HLO : Hid (up = false → ((q < 0) = (betP up (nP L k) (nP (bsM up x out L k) x) = true))) := Lib.hid (by intro hu; rw [hu, hq, hu]; exact cmp_low)
                            have HF0 := Lib.hid (@bsM_first up x out L)
                            have HYES := Lib.hid (@bsM_set up x out L k (by rw [HOL.out]; exact hxl))
                            have HKEEP := Lib.hid (@bsM_keep up x out L k (by rw [HOL.out]; exact hxl))
                            clear hq fb ob hmem
                            obtain ⟨q0, q1⟩ := oL.cells hkt
                            have l1 : (k : Int) < (L.length : Int) := by omega
                            have l2 : (0 : Int) ≤ (k : Int) := by omega
                            have HAL : Below u1.heap.size u1 (u1.alloc (.cells #[.int .i64 (pT L k), .int .i64 (pB L k)] 40)) := (Below.refl _ _).alloc (Nat.le_refl _) _
                            have R1 := R.below HAL
                            have oL1 := oL.below HAL
                            have b1 := Bx.new u1 (.int .i64 (pT L k)) (.int .i64 (pB L k)) 40
                            clear R oL HAL
                            go_upto_region 36 with fail
                            clear q0 q1
                            obtain ⟨v, hv⟩ : ∃ v : World, v = u1.alloc (.cells #[.int .i64 (pT L k), .int .i64 (pB L k)] 40) := ⟨_, rfl⟩
                            rw [← hv] at R1 oL1 b1 ⊢
                            clear hv
                            have HS : Hid ((v.drew.cell? ⟨u1.heap.size, 0, none⟩ = some (.int .i64 (pT L k)) ∧ v.drew.cell? ⟨u1.heap.size, 1, none⟩ = some (.int .i64 (pB L k))) ∧ v.drew.cell? ⟨go, x * 2, none⟩ = some (.int .i64 (pT (bsM up x out L k) x)) ∧ v.drew.cell? ⟨go, x * 2 + 1, none⟩ = some (.int .i64 (pB (bsM up x out L k) x))) := Lib.hid ⟨⟨b1.1, b1.2.1⟩, R1.o.cells HLX.out⟩
                            have hS0 := HS.out
                            refine tamed_region (S := fun w' => (w'.cell? ⟨u1.heap.size, 0, none⟩ = some (.int .i64 (pT L k)) ∧ w'.cell? ⟨u1.heap.size, 1, none⟩ = some (.int .i64 (pB L k))) ∧ w'.cell? ⟨go, x * 2, none⟩ = some (.int .i64 (pT (bsM up x out L k) x)) ∧ w'.cell? ⟨go, x * 2 + 1, none⟩ = some (.int .i64 (pB (bsM up x out L k) x))) (fun _ => false) (by kernel_rfl) ?_
                            refine tame (k := 0) ?_ rfl (by kernel_rfl) (by kernel_rfl) (by kernel_rfl) (by kernel_rfl) (fun _ _ _ h => h) (by kernel_rfl) hS0 (fun v hv => ?_) ?_
                            rotate_left
                            · (obtain ⟨⟨k1, k2⟩, k3, k4⟩ := hv; go_simp; all_goals rfl)
                            simp only [Act.put, List.setIfInBounds_toArray]
                            refine tame0 (k := 1) ?_ rfl (by kernel_rfl) (by kernel_rfl) (by kernel_rfl) (fun _ _ _ h => h) (by kernel_rfl) (fun v => ?_) ?_
                            rotate_left
                            · (go_simp; all_goals rfl)
                            simp only [Act.put]
                            refine tame0 (k := 2) ?_ rfl (by kernel_rfl) (by kernel_rfl) (by kernel_rfl) (fun _ _ _ h => h) (by kernel_rfl) (fun v => ?_) ?_
                            rotate_left
                            · (go_simp; all_goals rfl)
                            simp only [Act.put]
                            refine tame0 (k := 3) ?_ rfl (by kernel_rfl) (by kernel_rfl) (by kernel_rfl) (fun _ _ _ h => h) (by kernel_rfl) (fun v => ?_) ?_
                            rotate_left
                            · (go_simp; all_goals rfl)
                            simp only [Act.put]
                            refine tame (k := 4) ?_ rfl (by kernel_rfl) (by kernel_rfl) (by kernel_rfl) (by kernel_rfl) (fun _ _ _ h => h) (by kernel_rfl) hS0 (fun v hv => ?_) ?_
                            rotate_left
                            · (obtain ⟨⟨k1, k2⟩, k3, k4⟩ := hv; go_simp; all_goals rfl)
                            simp only [Act.put]
                            clear hS0 HS
                            refine tame_one (k := 5) (by kernel_rfl) rfl (by kernel_rfl) ?_
                            go_simp
                            refine (C _).mono ?_
                            rintro e w9 ⟨rfl, b9⟩
                            have H9 := bUp (Below.drew (Below.refl v.heap.size v)) b9 (Nat.le_refl _)
                            have R9 := R1.below H9
                            have oL9 := oL1.below H9
                            have bb9 := b1.below H9
                            have HS9 : Hid ((w9.cell? ⟨u1.heap.size, 0, none⟩ = some (.int .i64 (pT L k)) ∧ w9.cell? ⟨u1.heap.size, 1, none⟩ = some (.int .i64 (pB L k))) ∧ w9.cell? ⟨go, x * 2, none⟩ = some (.int .i64 (pT (bsM up x out L k) x)) ∧ w9.cell? ⟨go, x * 2 + 1, none⟩ = some (.int .i64 (pB (bsM up x out L k) x))) := Lib.hid ⟨⟨bb9.1, bb9.2.1⟩, R9.o.cells HLX.out⟩
                            refine ⟨by exact HS9.out, ?_⟩
                            refine tame_one (k := 6) (by kernel_rfl) rfl (by kernel_rfl) ?_
                            go_simp
                            refine ⟨by first | exact HS9.out, ?_⟩
                            refine tame_end (by kernel_rfl) ?_
                            clear C R1 oL1 b1 b9 H9 HS9
                            rcases Nat.eq_zero_or_pos k with hk0 | hk0
                            · have HB : Hid ((bsM up x out L 0).set x (nP L 0) = bsM up x out L (0 + 1)) := Lib.hid HF0.out
                              clear HF0 HYES HKEEP HUP HLO
                              subst hk0
                              obtain ⟨f0, f1, z0, z1, fz⟩ := id bb9
                              obtain ⟨u0, u2, qu0, qu1⟩ := R9.o.some2 HLX.out
                              have zo0 := R9.o.frozen (x * 2)
                              have zo1 := R9.o.frozen (x * 2 + 1)
                              have RS := R9.set (pT L 0) (pB L 0) HLX.out
                              have oS := oL9.grown (R9.o.set2 (pT L 0) (pB L 0) HLX.out).2 (.inr (by simp [blk]; omega))
                              rw [show (pT L 0, pB L 0) = nP L 0 from rfl, HB.out] at RS
                              go_wp2_with fail
                              go_roundw
                              case rel => exact ⟨0 + 1, hkt, by go_num, oS, RS⟩
                              case measure => simp [intOf] <;> omega
                            · have hk1 : ¬ ((k : Int) = 0) := by omega
                              have HYES := Lib.hid (HYES.out hk0)
                              have HKEEP := Lib.hid (HKEEP.out hk0)
                              cases up
                              · have HLO := Lib.hid (HLO.out rfl)
                                by_cases hq : q < 0
                                · have HB := Lib.hid (HYES.out (HLO.out.mp hq))
                                  clear HF0 HYES HKEEP HUP HLO
                                  obtain ⟨f0, f1, z0, z1, fz⟩ := id bb9
                                  obtain ⟨u0, u2, qu0, qu1⟩ := R9.o.some2 HLX.out
                                  have zo0 := R9.o.frozen (x * 2)
                                  have zo1 := R9.o.frozen (x * 2 + 1)
                                  have RS := R9.set (pT L k) (pB L k) HLX.out
                                  have oS := oL9.grown (R9.o.set2 (pT L k) (pB L k) HLX.out).2 (.inr (by simp [blk]; omega))
                                  rw [show (pT L k, pB L k) = nP L k from rfl, HB.out] at RS
                                  go_wp2_with fail
                                  go_roundw
                                  case rel => exact ⟨k + 1, hkt, by go_num, oS, RS⟩
                                  case measure => simp [intOf] <;> omega
                                · have HB := Lib.hid (HKEEP.out (fun h => hq (HLO.out.mpr h)))
                                  clear HF0 HYES HKEEP HUP HLO
                                  have RS := R9
                                  rw [HB.out] at RS
                                  clear R9
                                  go_wp2_with fail
                                  go_roundw
                                  case rel => exact ⟨k + 1, hkt, by go_num, oL9, RS⟩
                                  case measure => simp [intOf] <;> omega
                              · have HUP := Lib.hid (HUP.out rfl)
                                by_cases hq : 0 < q
                                · have HB := Lib.hid (HYES.out (HUP.out.mp hq))
                                  clear HF0 HYES HKEEP HUP HLO
                                  obtain ⟨f0, f1, z0, z1, fz⟩ := id bb9
                                  obtain ⟨u0, u2, qu0, qu1⟩ := R9.o.some2 HLX.out
                                  have zo0 := R9.o.frozen (x * 2)
                                  have zo1 := R9.o.frozen (x * 2 + 1)
                                  have RS := R9.set (pT L k) (pB L k) HLX.out
                                  have oS := oL9.grown (R9.o.set2 (pT L k) (pB L k) HLX.out).2 (.inr (by simp [blk]; omega))
                                  rw [show (pT L k, pB L k) = nP L k from rfl, HB.out] at RS
                                  go_wp2_with fail
                                  go_roundw
                                  case rel => exact ⟨k + 1, hkt, by go_num, oS, RS⟩
                                  case measure => simp [intOf] <;> omega
                                · have HB := Lib.hid (HKEEP.out (fun h => hq (HUP.out.mpr h)))
                                  clear HF0 HYES HKEEP HUP HLO
                                  have RS := R9
                                  rw [HB.out] at RS
                                  clear R9
                                  go_wp2_with fail
                                  go_roundw
                                  case rel => exact ⟨k + 1, hkt, by go_num, oL9, RS⟩
                                  case measure => simp [intOf] <;> omega
                          · have hkn : k = L.length := by omega
                            subst hkn
                            have HB6 := Lib.hid (bsM_all (up := up) (x := x) (out := out) hpos)
                            rw [HB6.out] at R
                            go_wp2_with fail
                            go_roundw
                            case rel => exact ⟨x, (x : Int) - 1, out.set x (topOf up L), by omega, by omega, by go_num, HN.out, HI2.out, R⟩
                            case measure => simp [intOf] <;> omega
                      · have hnil := imL_none (F := F) (out := out) he
                        have hs2 : stepX up P F x out = some out := step_end he
                        have HN := Lib.hid (show stL up P F C (P.length - x) = some out by rw [HST.out, hs2])
                        have HI2 := Lib.hid (inv_step hiv hx (hk.un x hx) hs2)
                        have R0 := I.R
                        rw [hnil]
                        clear hs2 he HALL I
                        go_wp2_with fail
                        go_loopw [171] (fun i wr => i = .int .i64 0 ∧ PrR w wr go F.length out (.slice A1 P.length c1) (.slice A2 W.length c2) (.slice A3 F.length c3)) (fun i _ => 0)
                        case atStart => exact ⟨rfl, R0⟩
                        case round =>
                          clear R0
                          obtain ⟨rfl, R⟩ := hrel
                          obtain ⟨u1, rfl⟩ : ∃ u1 : World, u1 = wr := ⟨_, rfl⟩
                          go_wp2_with fail
                          go_roundw
                          case rel => exact ⟨x, (x : Int) - 1, out, by omega, by omega, by go_num, HN.out, HI2.out, R⟩
                          case measure => simp [intOf] <;> omega

theorem stL_len {up : Bool} {P F C : List Int} : ∀ m out, stL up P F C m = some out → out.length = P.length
  | 0, out, h => by
    rw [stL] at h
    cases h
    exact stTo_length _ _ _
  | m + 1, out, h => by
    rw [stL] at h
    cases hm : stL up P F C m with
    | none => rw [hm] at h; cases h
    | some o =>
      rw [hm] at h
      have ih := stL_len m o hm
      change stepX up P F (P.length - 1 - m) o = some out at h
      unfold stepX at h
      split at h
      · cases h
        exact ih
      · split at h
        · cases h
          rw [List.length_set, ih]
        · cases h
theorem prV_len (up : Bool) (P W F C : List Int) : (prV up P W F C).length ≤ 24 := by
  unfold prV
  split
  · next h =>
    simp only [prB, Bool.and_eq_true] at h
    have hs : sndB P W F = true := by simp only [sndB, Bool.and_eq_true]; exact ⟨h.1.1.1, h.1.2⟩
    have hk := prok_of hs h.1.1.2
    have hn := hk.tree.n2
    cases hm : stL up P F C P.length with
    | none => simp
    | some o =>
      have := stL_len _ _ hm
      simp
      omega
  · simp

set_option maxRecDepth 20000 in
theorem implUpperPrices_c (A1 : Option Addr) (P : List Int) (c1 : Nat) (A2 : Option Addr) (W : List Int) (c2 : Nat) (A3 : Option Addr) (F : List Int) (c3 : Nat) (A7 : Option Addr) (C : List Int) (c7 : Nat) (w : World) (h : RdM w A1 P A2 W A3 F) (h7 : Rd w A7 (ints C)) (hl7 : C.length ≤ 16777216) :
    Calls Try.prog 17 #[mkV A1 P.length c1 A2 W.length c2 A3 F.length c3, .slice A7 C.length c7] w (GivesP w (prV true P W F C) (prB true P W F C)) := by
  have HB1 : Below w.heap.size w (w.alloc (.cells #[.slice A1 P.length c1, .slice A2 W.length c2, .slice A3 F.length c3] 28)) := (Below.refl _ _).alloc (Nat.le_refl _) _
  go_enter Try.func17, Try.ntmps17
  go_wp2_with fail
  refine (bestPrices_c A1 P c1 A2 W c2 A3 F c3 A7 C c7 true _ (h.below HB1 (Nat.le_refl _)) (h7.below HB1 (Nat.le_refl _)) hl7).mono ?_
  rintro e w4 ⟨A, c, rfl, o4, b4⟩
  go_wp2
  go_ret2
  exact ⟨_, _, rfl, o4.mono HB1.size, bUp HB1 b4 HB1.size⟩
set_option maxRecDepth 20000 in
theorem implLowerPrices_c (A1 : Option Addr) (P : List Int) (c1 : Nat) (A2 : Option Addr) (W : List Int) (c2 : Nat) (A3 : Option Addr) (F : List Int) (c3 : Nat) (A7 : Option Addr) (C : List Int) (c7 : Nat) (w : World) (h : RdM w A1 P A2 W A3 F) (h7 : Rd w A7 (ints C)) (hl7 : C.length ≤ 16777216) :
    Calls Try.prog 20 #[mkV A1 P.length c1 A2 W.length c2 A3 F.length c3, .slice A7 C.length c7] w (GivesP w (prV false P W F C) (prB false P W F C)) := by
  have HB1 : Below w.heap.size w (w.alloc (.cells #[.slice A1 P.length c1, .slice A2 W.length c2, .slice A3 F.length c3] 28)) := (Below.refl _ _).alloc (Nat.le_refl _) _
  go_enter Try.func20, Try.ntmps20
  go_wp2_with fail
  refine (bestPrices_c A1 P c1 A2 W c2 A3 F c3 A7 C c7 false _ (h.below HB1 (Nat.le_refl _)) (h7.below HB1 (Nat.le_refl _)) hl7).mono ?_
  rintro e w4 ⟨A, c, rfl, o4, b4⟩
  go_wp2
  go_ret2
  exact ⟨_, _, rfl, o4.mono HB1.size, bUp HB1 b4 HB1.size⟩

end Go.Proofs.Ytnhclpajfejnoaa
