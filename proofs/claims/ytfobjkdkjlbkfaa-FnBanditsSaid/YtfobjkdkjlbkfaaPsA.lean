/- Playing in a set, sets, comparing (merged of PlW SetW Cmp). -/
import Derived.Test.YtfobjkdkjlbkfaaIdxL
import Derived.Test.YtfobjkdkjlbkfaaMk2
import Derived.Test.YtfobjkdkjlbkfaaButA
import Derived.Test.YtfobjkdkjlbkfaaLvB
import Derived.Test.YtfobjkdkjlbkfaaArA
import Derived.Test.YtfobjkdkjlbkfaaTrA
import Derived.Test.YtfobjkdkjlbkfaaMk
import Derived.WalkSpells
import Derived.Test.YtfobjkdkjlbkfaaRowsA
import Derived.Test.YtfobjkdkjlbkfaaPrL
import Derived.Test.YtfobjkdkjlbkfaaTrB
namespace Go.Proofs.Ytfobjkdkjlbkfaa
open Go.RowKit

theorem wtP_int {P W : List Int} {a b : Int} {x y : Nat} (hd : dpN P x ≤ dpN P y) : nth (gath P W) y * pw a (nth (dep P) y - nth (dep P) x).toNat * pw b (4 - (nth (dep P) y - nth (dep P) x)).toNat = wtP P W a b x y := by
  have h1 := dep_bd P x
  have h2 := dep_bd P y
  unfold wtP dpN at *
  rw [show (nth (dep P) y - nth (dep P) x).toNat = (nth (dep P) y).toNat - (nth (dep P) x).toNat by omega, show (4 - (nth (dep P) y - nth (dep P) x)).toNat = 4 - ((nth (dep P) y).toNat - (nth (dep P) x).toNat) by omega]
theorem qSame2 {P : Program} {f : FuncId} {args : Array Value} {w : World} {a n : Nat} {v : Value}
    (h : Calls P f args (w.drewN (a + n)) fun e w' => e = .returned v ∧ w.drewN (a + n) = w') : Calls P f args (w.drewN (a + n)) fun e w'' => e = .returned v ∧ ∃ m, w'' = w.drewN (a + m) :=
  h.mono fun _ _ ⟨he, hm⟩ => ⟨he, n, hm.symm⟩
theorem bx3_dr {W W' : World} {g : Nat} {x y z : Value} (h : Bx3 W g x y z) (hd : Dr W W') : Bx3 W' g x y z := by
  obtain ⟨n, rfl⟩ := hd
  exact h.drewN n
set_option maxRecDepth 20000 in
set_option maxHeartbeats 2000000 in
theorem played_c (A1 : Option Addr) (P : List Int) (c1 : Nat) (A2 : Option Addr) (W : List Int) (c2 : Nat) (A3 : Option Addr) (F : List Int) (c3 : Nat) (a b : Int) (x : Nat) (A : Option Addr) (s : List Int) (c : Nat) (w : World) (h : RdM w A1 P A2 W A3 F) (hk : ArmAB P W F a b) (hx : x < P.length) (hs : Rd w A (ints s)) (hl : s.length ≤ 9)
    (hm : ∀ k, k < s.length → ∃ y : Nat, nth s k = (y : Int) ∧ y < P.length ∧ dpN P x ≤ dpN P y) :
    Calls Try.prog 52 #[mkV A1 P.length c1 A2 W.length c2 A3 F.length c3, .int .i64 a, .int .i64 b, .int .i64 (x : Int), .slice A s.length c] w (Quietly w (.tuple #[.int .i64 (gnA P W F a b x s), .int .i64 (tmA P W a b x s)])) := by
  have HB1 : Below w.heap.size w (w.alloc (.cells #[.slice A1 P.length c1, .slice A2 W.length c2, .slice A3 F.length c3] 28)) := (Below.refl _ _).alloc (Nat.le_refl _) _
  have bx := Bx3.new w (.slice A1 P.length c1) (.slice A2 W.length c2) (.slice A3 F.length c3) 28
  have hok := hk.arm
  have hn1 := hok.tree.n1
  have hn2 := hok.tree.n2
  have hn9 := hok.n9
  have hpar := hok.tree.par
  have HFL := Lib.hid hok.len
  have ha0 : 0 ≤ a := by have := hk.a1; omega
  have ha4 : a ≤ 4 := by have := hk.ab; have := hk.b4; omega
  have hb0 : 0 ≤ b := by have := hk.a1; have := hk.ab; omega
  have hb4 := hk.b4
  have HM := Lib.hid hm
  have hm2 : ∀ k, k < s.length → (nth s k).toNat < P.length := fun k hk' => by
    obtain ⟨y, e, h1, _⟩ := hm k hk'
    omega
  have HG := Lib.hid (gnT_bd hok hk.a1 hk.ab hk.b4 (x := x) hm2)
  have HT := Lib.hid (tmT_bd hok hk.a1 hk.ab hk.b4 (x := x) hm2)
  clear hm hm2
  go_enter Try.func52, Try.ntmps52
  go_upto_region 2 with fail
  generalize w.alloc (.cells #[.slice A1 P.length c1, .slice A2 W.length c2, .slice A3 F.length c3] 28) = v at *
  obtain ⟨f0, f1, f2, fz⟩ := id bx
  have hd : Below v.heap.size v v.drew := Below.drew (Below.refl _ _)
  have SK : Hid (∀ w', Below v.heap.size v w' → w'.cell? ⟨w.heap.size, 0, none⟩ = some (.slice A1 P.length c1) ∧ w'.cell? ⟨w.heap.size, 1, none⟩ = some (.slice A2 W.length c2) ∧ w'.cell? ⟨w.heap.size, 2, none⟩ = some (.slice A3 F.length c3)) :=
    Lib.hid fun w' HV => ⟨(HV.cell (p := ⟨w.heap.size, 0, none⟩) fz).trans f0, (HV.cell (p := ⟨w.heap.size, 1, none⟩) fz).trans f1, (HV.cell (p := ⟨w.heap.size, 2, none⟩) fz).trans f2⟩
  clear f0 f1 f2
  have hS0 := SK.out v.drew hd
  have h' := h.below (Below.drew HB1) (Nat.le_refl _)
  refine tamed_region (S := fun w' => w'.cell? ⟨w.heap.size, 0, none⟩ = some (.slice A1 P.length c1) ∧ w'.cell? ⟨w.heap.size, 1, none⟩ = some (.slice A2 W.length c2) ∧ w'.cell? ⟨w.heap.size, 2, none⟩ = some (.slice A3 F.length c3)) (fun _ => false) (by kernel_rfl) ?_
  refine tame0 (k := 0) ?_ rfl (by kernel_rfl) (by kernel_rfl) (by kernel_rfl) (fun _ _ _ h => h) (by kernel_rfl) (fun v => ?_) ?_
  rotate_left
  · (go_simp; all_goals rfl)
  simp only [Act.put, List.setIfInBounds_toArray]
  refine tame (k := 1) ?_ rfl (by kernel_rfl) (by kernel_rfl) (by kernel_rfl) (by kernel_rfl) (fun _ _ _ h => h) (by kernel_rfl) hS0 (fun v hv => ?_) ?_
  rotate_left
  · (obtain ⟨k1, k2, k3⟩ := hv; go_simp; all_goals rfl)
  simp only [Act.put]
  refine tame0 (k := 3) ?_ rfl (by kernel_rfl) (by kernel_rfl) (by kernel_rfl) (fun _ _ _ h => h) (by kernel_rfl) (fun v => ?_) ?_
  rotate_left
  · (go_simp; all_goals rfl)
  simp only [Act.put]
  refine tame (k := 4) ?_ rfl (by kernel_rfl) (by kernel_rfl) (by kernel_rfl) (by kernel_rfl) (fun _ _ _ h => h) (by kernel_rfl) hS0 (fun v hv => ?_) ?_
  rotate_left
  · (obtain ⟨k1, k2, k3⟩ := hv; go_simp; all_goals rfl)
  simp only [Act.put]
  refine tame_one (k := 2) (by kernel_rfl) rfl (by kernel_rfl) ?_
  go_simp
  refine (sums_c A1 P c1 A2 W c2 _ h'.r1 h'.r2 hok.tree hn1 hn2).mono ?_
  rintro e w5 ⟨As, cs, rfl, os, b5⟩
  have H5 := bUp hd b5 (Nat.le_refl _)
  refine ⟨by first | exact SK.out _ H5, ?_⟩
  refine tame_one (k := 5) (by kernel_rfl) rfl (by kernel_rfl) ?_
  go_simp
  refine (depthsN_c A1 P c1 A2 W.length c2 _ (h'.below b5 (Nat.le_refl _)).r1 hpar hn1 hn2).mono ?_
  rintro e w6 ⟨Ad, cd, rfl, od, b6⟩
  have H6 := bUp H5 b6 H5.size
  have HS6 := Lib.hid (SK.out _ H6)
  refine ⟨by first | exact HS6.out, ?_⟩
  have os6 := os.below b6
  have bx6 := bx.below H6
  have HB6 := HB1.trans (H6.mono HB1.size)
  clear os b5 b6 H5 H6 hS0 h' hd SK fz bx HB1
  refine tame_one (k := 6) (by kernel_rfl) rfl (by kernel_rfl) ?_
  go_simp
  refine ⟨by first | exact HS6.out, ?_⟩
  refine tame_one (k := 7) (by kernel_rfl) rfl (by kernel_rfl) ?_
  go_simp
  refine ⟨by first | exact HS6.out, ?_⟩
  refine tame_end (by kernel_rfl) ?_
  clear HS6
  have hss := hs.below HB6 (Nat.le_refl _)
  have h6 := h.below HB6 (Nat.le_refl _)
  have HSL := Lib.hid (show (gath P W).length = P.length by rw [gath_length, hok.tree.len])
  have HDL := Lib.hid (dep_length hn1)
  obtain ⟨gs, rfl, _, _⟩ := os6.form (by rw [HSL.out]; omega)
  obtain ⟨gd, rfl, _, _⟩ := od.form (by rw [HDL.out]; omega)
  go_wp2
  go_loopw [12, 13, 28] (fun g t i wr => ∃ k : Nat, k ≤ s.length ∧ i = .int .i64 (k : Int) ∧ g = .int .i64 (gnT P W F a b x s k) ∧ t = .int .i64 (tmT P W a b x s k) ∧ Dr w6 wr) (fun _ _ i _ => s.length - (intOf i).toNat)
  case atStart => exact ⟨0, Nat.zero_le _, rfl, by rw [gnT_zero], by rw [tmT_zero], Dr.refl _⟩
  case round =>
    obtain ⟨k, hkl, rfl, rfl, rfl, hdr⟩ := hrel
    obtain ⟨wo, rfl⟩ : ∃ wo : World, wo = wr := ⟨_, rfl⟩
    obtain ⟨f0, f1, f2, fz⟩ := bx3_dr bx6 hdr
    by_cases hlt : k < s.length
    · obtain ⟨a0, rfl, hcs⟩ := (hss.dr hdr).intN hlt
      obtain ⟨y, ey, hy, hyd⟩ := HM.out k hlt
      have HGS := Lib.hid (gnT_succ (P := P) (W := W) (F := F) (a := a) (b := b) (x := x) hlt)
      have HTS := Lib.hid (tmT_succ (P := P) (W := W) (a := a) (b := b) (x := x) hlt)
      rw [ey] at hcs HGS HTS
      rw [Int.toNat_natCast] at HGS HTS
      have HWI := Lib.hid (wtP_int (P := P) (W := W) (a := a) (b := b) hyd)
      have bG := HG.out k hkl
      have bT := HT.out k hkl
      have cS := (os6.dr hdr).cellN (k := y) (by rw [HSL.out]; exact hy)
      have cD := (od.dr hdr).cellN (k := y) (by rw [HDL.out]; exact hy)
      have cX := (od.dr hdr).cellN (k := x) (by rw [HDL.out]; exact hx)
      obtain ⟨af, rfl, hcf⟩ := (h6.r3.dr hdr).intN (k := y) (by have := HFL.out; omega)
      have d1 := hok.depth hy
      have d2 := hok.depth hx
      have d3 : 0 ≤ nth (dep P) y - nth (dep P) x ∧ nth (dep P) y - nth (dep P) x ≤ 4 := by unfold dpN at hyd; omega
      have s1 := hok.sum180 y
      have p1 := pw_four ha0 ha4 (k := (nth (dep P) y - nth (dep P) x).toNat) (by omega)
      have p2 := pw_four hb0 hb4 (k := (4 - (nth (dep P) y - nth (dep P) x)).toNat) (by omega)
      have m1 := mul_bd _ _ 180 256 s1.1 s1.2 p1.1 p1.2
      have w1 := wtP_bd hok hk.a1 hk.ab hk.b4 (x := x) hy
      have w2 := wtF_bd hok hk.a1 hk.ab hk.b4 (x := x) hy
      have i1 : (0 : Int) ≤ (y : Int) := by omega
      have i2 : (y : Int) < (P.length : Int) := by omega
      have i3 : (x : Int) < (P.length : Int) := by omega
      have i4 : y < F.length := by have := HFL.out; omega
      have i5 : (y : Int) < (F.length : Int) := by omega
      have e1 : IntKind.i64.wrap (nth (dep P) y - nth (dep P) x) = nth (dep P) y - nth (dep P) x := IntWalk.i64_in _ (by omega)
      have HE2 : Hid (IntKind.i64.wrap (4 - (nth (dep P) y - nth (dep P) x)) = 4 - (nth (dep P) y - nth (dep P) x)) := Lib.hid (IntWalk.i64_in _ (by omega))
      have HE3 : Hid (IntKind.i64.wrap (nth (gath P W) y * pw a (nth (dep P) y - nth (dep P) x).toNat) = nth (gath P W) y * pw a (nth (dep P) y - nth (dep P) x).toNat) := Lib.hid (IntWalk.i64_in _ (by omega))
      have HE4 : Hid (IntKind.i64.wrap (nth (gath P W) y * pw a (nth (dep P) y - nth (dep P) x).toNat * pw b (4 - (nth (dep P) y - nth (dep P) x)).toNat) = nth (gath P W) y * pw a (nth (dep P) y - nth (dep P) x).toNat * pw b (4 - (nth (dep P) y - nth (dep P) x)).toNat) := Lib.hid (by rw [HWI.out]; exact IntWalk.i64_in _ (by omega))
      clear ey hyd
      go_wp2
      go_quiet (fail)
      have e2 := HE2.out
      have e3 := HE3.out
      have e4 := HE4.out
      clear e1
      go_wp2
      go_quiet ((go_at_call 54; exact qSame2 (power_s _ _ _ (by omega) (by omega) (by omega) (by omega) rfl _)))
      clear e2 e3 e4
      rw [HWI.out]
      clear s1 p1 p2 m1 d1 d2 d3
      go_wp2
      go_roundw
      case rel => exact ⟨k + 1, by omega, by go_num, by rw [HGS.out], by rw [HTS.out], hdr.drewN _⟩
      case measure => simp [intOf] <;> omega
    · obtain rfl : k = s.length := by omega
      go_wp2
      go_ret2
      exact ⟨rfl, hdr.below HB6⟩

theorem slCloneSS_c (g : Nat) (c B : Nat) (H : List Value) (B0 : Nat) (D : Option Nat) (L : List (List Int)) (w : World) (ho : OwnH w B (some ⟨g, 0, none⟩) c H) (hh : Heads w B0 D H L) (h0 : 0 < L.length) (hl : L.length ≤ 65536) :
    Calls Try.prog 105 #[.slice (some ⟨g, 0, none⟩) L.length c] w fun e w' => ∃ g2 c2, e = .returned (.slice (some ⟨g2, 0, none⟩) L.length c2) ∧ OwnH w' w.heap.size (some ⟨g2, 0, none⟩) c2 H ∧ Below w.heap.size w w' := by
  have hlen := hh.len
  have HO := hh.one
  have O0 := OwnH.lit w [] (by simp)
  have HS : ∀ j u, H[j]? = some u → (w.alloc (.cells #[] 24)).cell? ((⟨g, 0, none⟩ : Addr).add j) = some u := fun j u hu => by
    rw [Addr.add_lit, Nat.zero_add]
    exact (ho.alloc _).cell hu
  have q1 := fun (w : World) => Lib.run_eql_slice_nil (P := Try.prog) (w := w)
  go_enter Try.func105, Try.ntmps105
  go_wp2_with (at_builtin; refine wp_append_heads _ rfl _ _ rfl w.heap.size _ 0 0 [] rfl rfl O0 ⟨g, 0, none⟩ L.length c H rfl hlen.symm HS HO (by simp; omega) (by simp) (by omega) ?_; intro g2 c2 w2 ho2 hg2 hb2; rw [List.nil_append] at ho2)
  go_ret
  exact ⟨g2, c2, by first | rfl | simp, ho2, (grown_of_alloc hg2 |> fun h => (Below.refl _ _).grown h (Nat.le_refl _) (by simp [blk]))⟩
theorem slCloneI_c (a : Addr) (xs : List Int) (c : Nat) (w : World) (ha : Rd w (some a) (ints xs)) (hl : xs.length ≤ 16777216) :
    Calls Try.prog 107 #[.slice (some a) xs.length c] w (Row w xs) := by
  have q1 := fun (w : World) => Lib.run_eql_slice_nil (P := Try.prog) (w := w)
  go_enter Try.func107, Try.ntmps107
  go_wp2_with (at_builtin; refine wp_append_ints _ rfl _ _ rfl w.heap.size _ 0 0 [] rfl rfl (Own.lit w [] (by simp)) (some a) xs.length c xs rfl rfl (ha.alloc _) (by simp; omega) (by simp) ?_; intro A2 c2 w2 ho2 hg2 hb2; rw [List.nil_append] at ho2)
  go_ret
  exact ⟨A2, c2, by first | rfl | simp, ho2, (grown_of_alloc hg2 |> fun h => (Below.refl _ _).grown h (Nat.le_refl _) (by simp [blk]))⟩
theorem hasI_yes {s : List Int} {p : Int} {k : Nat} (hk : k < s.length) (h : nth s k = p) : hasI s p = true := hasI_iff.2 (by rw [← h, nth_eq hk]; exact List.getElem_mem hk)
theorem hasI_no {s : List Int} {p : Int} (h : ∀ k, k < s.length → nth s k ≠ p) : hasI s p = false := by
  cases hb : hasI s p
  · rfl
  · obtain ⟨k, hk, e⟩ := List.mem_iff_getElem.1 (hasI_iff.1 hb)
    exact absurd (by rw [nth_eq hk]; exact e) (h k hk)
theorem slIndexI_c (A : Option Addr) (s : List Int) (n c : Nat) (x : Int) (w : World) (ha : Rd w A (ints s)) (hn : n = s.length) (hl : s.length ≤ 1000) :
    Calls Try.prog 127 #[.slice A n c, .int .i64 x] w fun e w' => (∃ v : Int, e = .returned (.int .i64 v) ∧ -1 ≤ v ∧ v ≤ 1000 ∧ hasI s x = decide (0 ≤ v)) ∧ w = w' := by
  subst hn
  go_enter Try.func127, Try.ntmps127
  go_wp2
  go_loop [8] (fun i => ∃ k : Nat, k ≤ s.length ∧ i = .int .i64 k ∧ ∀ j, j < k → nth s j ≠ x) (fun i => s.length - (intOf i).toNat)
  case atStart => exact ⟨0, by omega, rfl, fun j hj => by omega⟩
  case round =>
    obtain ⟨k, hk, rfl, hall⟩ := hrel
    have HA := Lib.hid hall
    clear hall
    by_cases hlt : k < s.length
    · obtain ⟨a, rfl, hca⟩ := ha.intN hlt
      by_cases he : nth s k = x
      · have HE := Lib.hid (hasI_yes hlt he)
        have e1 : (x == nth s k) = true := by simp [he]
        clear he
        go_wp2
        go_ret
        exact ⟨⟨_, rfl, by omega, by omega, by rw [HE.out, decide_eq_true (by omega)]⟩, rfl⟩
      · have e1 : (x == nth s k) = false := by simp; exact fun h => he h.symm
        have HE := Lib.hid he
        clear he
        go_wp2
        go_round
        case rel => exact ⟨k + 1, by omega, by go_num, fun j hj => by
          rcases Nat.lt_or_ge j k with h | h
          · exact HA.out j h
          · rw [show j = k by omega]; exact HE.out⟩
        case measure => simp [intOf] <;> omega
    · have HE := Lib.hid (hasI_no fun j hj => HA.out j (by omega))
      go_wp2
      go_ret
      exact ⟨⟨_, rfl, by omega, by omega, by rw [HE.out, decide_eq_false (by omega)]⟩, rfl⟩
theorem slContainsI_is (A : Option Addr) (s : List Int) (n c : Nat) (x : Int) (q : Bool) (h : hasI s x = q) (w : World) (ha : Rd w A (ints s)) (hn : n = s.length) (hl : s.length ≤ 1000) :
    Calls Try.prog 106 #[.slice A n c, .int .i64 x] w fun e w' => e = .returned (.bool q) ∧ w = w' := by
  subst hn
  go_enter Try.func106, Try.ntmps106
  go_wp2_with fail
  refine (slIndexI_c _ _ _ _ _ _ ha rfl hl).mono ?_
  rintro e w' ⟨⟨v, rfl, h1, h2, h3⟩, rfl⟩
  rw [h] at h3
  have H3 := Lib.hid h3
  clear h3
  go_wp2
  go_ret
  exact ⟨by rw [H3.out] <;> rfl, rfl⟩

/-- The sets when the nodes below y have been seen. -/
def stsY (P : List Int) (x y : Nat) : List (List Int) := stsTo P x (y - (x + 1))
theorem stsY_start (P : List Int) (x : Nat) : stsY P x (x + 1) = [[(x : Int)]] := by rw [stsY, Nat.sub_self]; rfl
theorem stsY_end {P : List Int} {x y : Nat} (h : x + 1 ≤ y) (he : endB P y = true) : stsY P x (y + 1) = stsY P x y := by
  unfold stsY
  rw [show y + 1 - (x + 1) = (y - (x + 1)) + 1 by omega, stsTo, show x + 1 + (y - (x + 1)) = y by omega, he]
  rfl
theorem stsY_in {P : List Int} {x y : Nat} (h : x + 1 ≤ y) (he : endB P y = false) : stsY P x (y + 1) = stsY P x y ++ stsIn (stsY P x y) (nth P y) (y : Int) (stsY P x y).length := by
  unfold stsY
  rw [show y + 1 - (x + 1) = (y - (x + 1)) + 1 by omega, stsTo, show x + 1 + (y - (x + 1)) = y by omega, he]
  rfl
theorem stsY_all {P : List Int} {x : Nat} (he : endB P x = false) : stsY P x P.length = sts P x := by
  rw [sts, he, if_neg (by simp), stsY, show P.length - (x + 1) = P.length - 1 - x by omega]
theorem stsY_len {P : List Int} {x y : Nat} (h9 : P.length ≤ 9) (hy : y ≤ P.length) : (stsY P x y).length ≤ 256 :=
  Nat.le_trans (stsTo_len _ _ _) (Nat.pow_le_pow_right (by decide) (show y - (x + 1) ≤ 8 by omega))
theorem stsY_pos (P : List Int) (x y : Nat) : 0 < (stsY P x y).length := stsTo_pos _ _ _
theorem stsTo_row {P : List Int} {x : Nat} : ∀ k, ∀ s ∈ stsTo P x k, s.length ≤ k + 1
  | 0, s, h => by
    rw [stsTo, List.mem_singleton] at h
    subst h
    exact Nat.le_refl _
  | k + 1, s, h => by
    rw [stsTo] at h
    split at h
    · have := stsTo_row k s h; omega
    · rcases List.mem_append.1 h with h | h
      · have := stsTo_row k s h; omega
      · obtain ⟨t, ht, _, rfl⟩ := mem_stsIn.1 h
        have := stsTo_row k t ht
        rw [List.length_append]
        simp
        omega
theorem stsY_row {P : List Int} {x y k : Nat} (h9 : P.length ≤ 9) (hy : y ≤ P.length) (hk : k < (stsY P x y).length) : (lAt (stsY P x y) k).length ≤ 9 := by
  have := stsTo_row (y - (x + 1)) _ (lAt_mem hk)
  unfold stsY at *
  omega
theorem sts_row {P : List Int} {x k : Nat} (h9 : P.length ≤ 9) (hk : k < (sts P x).length) : (lAt (sts P x) k).length ≤ 9 := by
  rw [sts] at hk ⊢
  split
  · next h => rw [if_pos h] at hk; exact absurd hk (by simp)
  · next h =>
    rw [if_neg h] at hk
    have := stsTo_row _ _ (lAt_mem hk)
    omega
/-- While the sets of y are being added. -/
def stsI (P : List Int) (x y m : Nat) : List (List Int) := stsY P x y ++ stsIn (stsY P x y) (nth P y) (y : Int) m
theorem stsI_zero (P : List Int) (x y : Nat) : stsI P x y 0 = stsY P x y := by rw [stsI, stsIn_zero, List.append_nil]
theorem stsI_all {P : List Int} {x y : Nat} (h : x + 1 ≤ y) (he : endB P y = false) : stsI P x y (stsY P x y).length = stsY P x (y + 1) := (stsY_in h he).symm
theorem stsI_yes {P : List Int} {x y m : Nat} (hm : m < (stsY P x y).length) (h : hasI (lAt (stsY P x y) m) (nth P y) = true) : stsI P x y (m + 1) = stsI P x y m ++ [lAt (stsY P x y) m ++ [(y : Int)]] := by
  rw [stsI, stsIn_yes hm h, stsI, List.append_assoc]
  rfl
theorem stsI_no {P : List Int} {x y m : Nat} (hm : m < (stsY P x y).length) (h : hasI (lAt (stsY P x y) m) (nth P y) = false) : stsI P x y (m + 1) = stsI P x y m := by
  rw [stsI, stsIn_no hm h, stsI]
theorem stsI_len {P : List Int} {x y m : Nat} (h9 : P.length ≤ 9) (hy : y ≤ P.length) (hm : m ≤ (stsY P x y).length) : (stsI P x y m).length ≤ 512 := by
  have := stsY_len (x := x) h9 hy
  have := stsIn_len (stsY P x y) (nth P y) (y : Int) m
  rw [stsI, List.length_append]
  omega
theorem RowsAt.nil (w : World) (B : Nat) (A : Option Addr) : RowsAt w B A [] := fun k hk => by simp at hk
theorem sts_end {P : List Int} {x : Nat} (he : endB P x = true) : sts P x = [] := by rw [sts, he]; rfl

set_option maxRecDepth 20000 in
set_option maxHeartbeats 1000000 in
theorem sets_c (A1 : Option Addr) (P : List Int) (c1 : Nat) (A2 : Option Addr) (W : List Int) (c2 : Nat) (A3 : Option Addr) (F : List Int) (c3 : Nat) (x : Nat) (w : World) (h : RdM w A1 P A2 W A3 F) (hp : ParOk P) (hf : F.length = P.length) (h9 : P.length ≤ 9) (hx : x < P.length) :
    Calls Try.prog 49 #[mkV A1 P.length c1 A2 W.length c2 A3 F.length c3, .int .i64 (x : Int)] w fun e w' => ∃ A c, e = .returned (.slice A (sts P x).length c) ∧ RowsAt w' w.heap.size A (sts P x) ∧ Below w.heap.size w w' := by
  have HF := Lib.hid hf
  clear hf
  have HB1 : Below w.heap.size w (w.alloc (.cells #[.slice A1 P.length c1, .slice A2 W.length c2, .slice A3 F.length c3] 28)) := (Below.refl _ _).alloc (Nat.le_refl _) _
  have bx := Bx3.new w (.slice A1 P.length c1) (.slice A2 W.length c2) (.slice A3 F.length c3) 28
  go_enter Try.func49, Try.ntmps49
  go_wp2_with fail
  refine (isEnd_c A1 P c1 A2 W.length c2 _ (h.r1.below HB1 (Nat.le_refl _)) hp (by omega) (by omega)).mono ?_
  rintro e w2 ⟨g, cg, rfl, og, hb2⟩
  have HB2 := bUp HB1 hb2 HB1.size
  have bx2 := bx.below hb2
  have og2 := og
  have hce := og.cell (k := x) (by rw [endsB_length]; exact hx)
  rw [endsB_nth hx] at hce
  have hr1 := h.r1.below HB2 (Nat.le_refl _)
  clear HB1 bx hb2 og
  cases he : endB P x
  · rw [he] at hce
    have HE := Lib.hid he
    clear he
    have oh0 : OwnH ((w2.alloc (.cells #[.int .i64 (x : Int)] 3)).alloc (.cells #[.slice (some ⟨w2.heap.size, 0, none⟩) 1 1] 24)) (w2.heap.size + 1) (some ⟨w2.heap.size + 1, 0, none⟩) 1 [.slice (some ⟨w2.heap.size, 0, none⟩) 1 1] := by
      have := OwnH.lit (w2.alloc (.cells #[.int .i64 (x : Int)] 3)) [.slice (some ⟨w2.heap.size, 0, none⟩) 1 1] (by simp)
      simpa using this
    have hh0 : Heads ((w2.alloc (.cells #[.int .i64 (x : Int)] 3)).alloc (.cells #[.slice (some ⟨w2.heap.size, 0, none⟩) 1 1] 24)) w2.heap.size (some (w2.heap.size + 1)) [.slice (some ⟨w2.heap.size, 0, none⟩) 1 1] [[(x : Int)]] := by
      have := (Heads.nil ((w2.alloc (.cells #[.int .i64 (x : Int)] 3)).alloc (.cells #[.slice (some ⟨w2.heap.size, 0, none⟩) 1 1] 24)) w2.heap.size (some (w2.heap.size + 1))).snoc (a := ⟨w2.heap.size, 0, none⟩) (c := 1) (s := [(x : Int)]) ((Rd.box w2 (x : Int) 3).alloc _) (by simp; omega) (by simp) (Nat.le_refl _)
      simpa using this
    have hbb0 : Below w2.heap.size w2 ((w2.alloc (.cells #[.int .i64 (x : Int)] 3)).alloc (.cells #[.slice (some ⟨w2.heap.size, 0, none⟩) 1 1] 24)) := ((Below.refl _ _).alloc (Nat.le_refl _) _).alloc (by simp) _
    have OH := Lib.hid oh0
    have HH := Lib.hid hh0
    have HBB := Lib.hid hbb0
    clear oh0 hh0 hbb0
    obtain ⟨b0, b1, b2, bz⟩ := id bx2
    go_wp2
    clear b0 b1 b2 bz
    go_loopw [6, 7] (fun t i wr => ∃ (y : Nat) (A : Option Addr) (c : Nat) (H : List Value), x + 1 ≤ y ∧ y ≤ P.length ∧ i = .int .i64 (y : Int) ∧ t = .slice A (stsY P x y).length c ∧ OwnH wr (w2.heap.size + 1) A c H ∧ Heads wr w2.heap.size (blk A) H (stsY P x y) ∧ Below w2.heap.size w2 wr) (fun _ i _ => P.length - (intOf i).toNat)
    case atStart => exact ⟨x + 1, _, _, _, Nat.le_refl _, by omega, by go_num, by rw [stsY_start]; rfl, OH.out, by rw [stsY_start]; exact HH.out, HBB.out⟩
    case round =>
      obtain ⟨y, A, c, H, hy1, hy2, rfl, rfl, oh, hh, hB⟩ := hrel
      clear OH HH HBB
      obtain ⟨wo, rfl⟩ : ∃ wo : World, wo = wr := ⟨_, rfl⟩
      obtain ⟨b0, b1, b2, bz⟩ := bx2.below hB
      have hR1 := hr1.below hB (Nat.le_refl _)
      have ob := og2.below hB
      by_cases hlt : y < P.length
      · have hltF : y < F.length := by have := HF.out; omega
        have hcy := ob.cell (k := y) (by rw [endsB_length]; exact hlt)
        rw [endsB_nth hlt] at hcy
        obtain ⟨ap, rfl, hpc⟩ := hR1.intN hlt
        cases hey : endB P y
        · have HS := Lib.hid (stsI_all hy1 hey)
          rw [hey] at hcy
          clear hey
          obtain ⟨g1, rfl, hg1a, hg1b⟩ := oh.form (by rw [hh.len]; exact stsY_pos _ _ _)
          have hY := stsY_len (x := x) h9 hy2
          go_wp2_with fail
          refine (slCloneSS_c g1 c _ H _ _ _ _ oh hh (stsY_pos _ _ _) (by omega)).mono ?_
          rintro e w3 ⟨g2, c2, rfl, oh2, hb3⟩
          have oh3 := oh.below hb3
          have hh3 := hh.below hb3
          have hB3 := bUp hB hb3 hB.size
          have hsz : w2.heap.size + 1 ≤ wo.heap.size := by omega
          have ne12 : g1 ≠ g2 := by have := (oh2.ltk g2 rfl).1; omega
          have hZ0 := stsI_zero P x y
          obtain ⟨L, hL⟩ : ∃ L, L = stsI P x y 0 := ⟨_, rfl⟩
          have hhZ : Heads w3 w2.heap.size (some g1) H L := by rw [hL, hZ0]; exact hh3
          have hZl : (stsY P x y).length = L.length := by rw [hL, hZ0]
          have HL := Lib.hid hL
          clear b0 b1 b2 bz hcy oh hh hB hb3 hpc ob hZ0 hL
          go_wp2
          go_loopw [6, 36] (fun t i wr => ∃ (m : Nat) (A : Option Addr) (c : Nat) (H' : List Value), m ≤ (stsY P x y).length ∧ i = .int .i64 (m : Int) ∧ t = .slice A (stsI P x y m).length c ∧ OwnH wr (w2.heap.size + 1) A c H' ∧ Heads wr w2.heap.size (blk A) H' (stsI P x y m) ∧ OwnH wr (w2.heap.size + 1) (some ⟨g2, 0, none⟩) c2 H ∧ Heads wr w2.heap.size (blk A) H (stsY P x y) ∧ blk A ≠ some g2 ∧ Below w2.heap.size w2 wr) (fun _ i _ => (stsY P x y).length - (intOf i).toNat)
          case atStart => exact ⟨0, _, _, H, Nat.zero_le _, rfl, by rw [← HL.out], oh3, by rw [← HL.out]; exact hhZ, oh2.mono hsz, hh3, by simp [blk, ne12], hB3⟩
          case round =>
            obtain ⟨m, A, c', H', hm, rfl, rfl, oh', hh', oc, hc, hne, hB'⟩ := hrel
            obtain ⟨wi, rfl⟩ : ∃ wi : World, wi = wr := ⟨_, rfl⟩
            clear hhZ HL oh3 hh3 oh2 hB3
            by_cases hlt2 : m < (stsY P x y).length
            · obtain ⟨a, ca, hHa, hRa, hla, hna, _⟩ := hc.at_ m hlt2
              have hcl := oc.cell hHa
              have hrow := stsY_row (x := x) h9 hy2 hlt2
              obtain ⟨b0, b1, b2, bz⟩ := bx2.below hB'
              obtain ⟨ap2, hap, hpc⟩ := (hr1.below hB' (Nat.le_refl _)).intN hlt
              injection hap with hap
              subst hap
              obtain ⟨gA, rfl, hgA1, hgA2⟩ := oh'.form (by rw [hh'.len, stsI, List.length_append]; have := stsY_pos P x y; omega)
              have hI := stsI_len (x := x) h9 hy2 hm
              have hlH := hh'.len
              clear hHa
              cases hq : hasI (lAt (stsY P x y) m) (nth P y)
              · have HN := Lib.hid (stsI_no hlt2 hq)
                have HLH := Lib.hid hlH
                clear hlH
                go_wp2_with fail
                refine (slContainsI_is _ _ _ _ _ false hq _ hRa rfl (by omega)).mono ?_
                rintro e w5 ⟨rfl, rfl⟩
                clear hq
                go_wp2
                go_roundw
                case rel => exact ⟨m + 1, _, c', H', by omega, by go_num, by rw [HN.out], oh', by rw [HN.out]; exact hh', oc, hc, hne, hB'⟩
                case measure => simp [intOf] <;> omega
              · have HN := Lib.hid (stsI_yes hlt2 hq)
                have HLH := Lib.hid hlH
                clear hlH
                go_wp2_with fail
                refine (slContainsI_is _ _ _ _ _ true hq _ hRa rfl (by omega)).mono ?_
                rintro e w5 ⟨rfl, rfl⟩
                clear hq
                go_wp2_with fail
                refine (slCloneI_c a _ ca _ hRa (by omega)).mono ?_
                rintro e w5 ⟨A5, c5, rfl, o5, b5⟩
                clear b0 b1 b2 bz hpc hcl
                have hgz : gA < w5.heap.size := Nat.lt_of_lt_of_le hgA2 b5.size
                have hN6 : H'.length ≤ 512 := by have := HLH.out; omega
                have HN6 : Hid ((stsI P x y m).length = H'.length) := Lib.hid HLH.out.symm
                go_wp2_with (first | (at_builtin; refine wp_append1 _ _ _ rfl _ _ rfl wi.heap.size A5 _ c5 (lAt (stsY P x y) m) rfl rfl o5 rfl (by omega) b5.size ?_; intro A6 c6 w6 o6 hg6 hb6; have b6 := b5.grown hg6 b5.size o5.ge; clear hg6 hb6; obtain ⟨g6, rfl, h6a, h6b⟩ := o6.form (by simp); have oh6 := oh'.below b6; have hB6 := bUp hB' b6 hB'.size; have hB6z := hB6.size) | (at_builtin; refine wp_append_head _ ⟨g6, 0, none⟩ _ c6 _ rfl _ _ rfl (w2.heap.size + 1) _ _ c' H' rfl HN6.out oh6 rfl (by omega) (by omega) ?_; intro g7 c7 w7 o7 hg7 hb7))
                have hD : some g7 = some gA ∨ ∃ q, some g7 = some q ∧ w6.heap.size ≤ q := by
                  rcases hb7 with h | h
                  · exact .inl h
                  · exact .inr ⟨g7, rfl, h⟩
                have hne7 : some g7 ≠ some g2 := by
                  have h2 := (oc.ltk g2 rfl).2
                  have h3 := b6.size
                  rcases hD with h | ⟨q, h, h'⟩
                  · rw [h]; exact hne
                  · injection h with h; subst h; simp; omega
                have hh6 := (hh'.below b6).snoc (a := ⟨g6, 0, none⟩) (c := c6) o6.rd h6b (by simp only [blk, Option.map_some, ne_eq, Option.some.injEq]; omega) (by have := hB'.size; show w2.heap.size ≤ g6; omega)
                rw [List.length_append, List.length_singleton] at hh6
                have hh7 := hh6.grow hg7 hD
                have hc7 := (hc.below b6).grow hg7 hD
                have oc7 := (oc.below b6).grown hg7 (.inr (fun h => hne h.symm))
                have hB7 := hB6.grown hg7 hB6z (fun k hk => by have := oh6.ge k hk; omega)
                go_roundw
                case rel => exact ⟨m + 1, some ⟨g7, 0, none⟩, c7, _, by omega, by go_num, by rw [HN.out, List.length_append] <;> rfl, o7, by rw [HN.out]; exact hh7, oc7, hc7, hne7, hB7⟩
                case measure => simp [intOf] <;> omega
            · obtain rfl : m = (stsY P x y).length := by omega
              obtain ⟨b0, b1, b2, bz⟩ := bx2.below hB'
              go_wp2
              go_roundw
              case rel => exact ⟨y + 1, A, c', H', by omega, by omega, by go_num, by rw [HS.out], oh', by rw [← HS.out]; exact hh', hB'⟩
              case measure => simp [intOf] <;> omega
        · have HS := Lib.hid (stsY_end hy1 hey)
          rw [hey] at hcy
          clear hey
          go_wp2
          go_roundw
          case rel => exact ⟨y + 1, A, c, H, by omega, by omega, by go_num, by rw [HS.out], oh, by rw [HS.out]; exact hh, hB⟩
          case measure => simp [intOf] <;> omega
      · obtain rfl : y = P.length := by omega
        have HS := Lib.hid (stsY_all HE.out)
        have hltF : ¬ P.length < F.length := by have := HF.out; omega
        go_wp2
        go_ret
        exact ⟨A, c, by rw [HS.out] <;> rfl, by rw [← HS.out]; exact (rowsAt_of oh hh (by omega)).mono HB2.size, HB2.trans (hB.mono HB2.size)⟩
  · rw [he] at hce
    have HE := Lib.hid (sts_end he)
    clear he
    obtain ⟨b0, b1, b2, bz⟩ := bx2
    go_wp2
    go_ret
    exact ⟨none, 0, by rw [HE.out]; rfl, by rw [HE.out]; exact RowsAt.nil _ _ _, HB2⟩


theorem mulAbs2 {x y A B : Int} (hx : -A ≤ x ∧ x ≤ A) (hy : -B ≤ y ∧ y ≤ B) (hA : 0 ≤ A) (_hB : 0 ≤ B) : -(A * B) ≤ x * y ∧ x * y ≤ A * B := by
  rcases Int.lt_or_le y 0 with h | h
  · have := mulA_bd (x := x) (y := -y) hx.1 hx.2 (by omega) (show -y ≤ B by omega) hA
    rw [Int.mul_neg] at this
    omega
  · exact mulA_bd hx.1 hx.2 h hy.2 hA
def cmpI (f g : Int × Int) : Int := if f.1 * g.2 < g.1 * f.2 then -1 else if g.1 * f.2 < f.1 * g.2 then 1 else 0
theorem cmp_up {f g : Int × Int} : (cmpI f g > 0) = (betP true f g = true) := by
  unfold cmpI betP lessP
  apply propext
  simp only [if_true, decide_eq_true_eq]
  split
  · omega
  · split <;> omega
theorem cmp_low {f g : Int × Int} : (cmpI f g < 0) = (betP false f g = true) := by
  unfold cmpI betP lessP
  apply propext
  simp only [Bool.false_eq_true, if_false, decide_eq_true_eq]
  split
  · omega
  · split <;> omega
set_option maxRecDepth 20000 in
set_option maxHeartbeats 1000000 in
theorem compared_c (a b c d : Int) (ha : -1000000000 ≤ a ∧ a ≤ 1000000000) (hb : 0 ≤ b ∧ b ≤ 1000000) (hc : -1000000000 ≤ c ∧ c ≤ 1000000000) (hd : 0 ≤ d ∧ d ≤ 1000000) (w : World) :
    Calls Try.prog 65 #[.agg #[.int .i64 a, .int .i64 b], .agg #[.int .i64 c, .int .i64 d]] w (Quietly w (.int .i64 (cmpI (a, b) (c, d)))) := by
  have m1 := mulAbs2 (x := a) (y := d) (A := 1000000000) (B := 1000000) ha (by omega) (by decide) (by decide)
  have m2 := mulAbs2 (x := c) (y := b) (A := 1000000000) (B := 1000000) hc (by omega) (by decide) (by decide)
  have e1 : IntKind.i64.wrap (a * d) = a * d := IntWalk.i64_in _ (by omega)
  have e2 : IntKind.i64.wrap (c * b) = c * b := IntWalk.i64_in _ (by omega)
  have HB1 : Below w.heap.size w ((w.alloc (.cells #[.int .i64 a, .int .i64 b] 31)).alloc (.cells #[.int .i64 c, .int .i64 d] 31)) := by
    with_reducible repeat (first | exact Below.refl _ _ | refine Below.alloc ?_ (by simp <;> omega) _)
  have bf := (Bx.new w (.int .i64 a) (.int .i64 b) 31).alloc (.cells #[.int .i64 c, .int .i64 d] 31)
  have bg := Bx.new (w.alloc (.cells #[.int .i64 a, .int .i64 b] 31)) (.int .i64 c) (.int .i64 d) 31
  have HC : Hid (cmpI (a, b) (c, d) = if a * d < c * b then -1 else if c * b < a * d then 1 else 0) := Lib.hid rfl
  go_enter Try.func65, Try.ntmps65
  go_upto_region 1 with fail
  generalize (w.alloc (.cells #[.int .i64 a, .int .i64 b] 31)).alloc (.cells #[.int .i64 c, .int .i64 d] 31) = v at *
  simp only [World.size_alloc] at bf bg
  have HS : Hid ((v.drew.cell? ⟨w.heap.size, 0, none⟩ = some (.int .i64 a) ∧ v.drew.cell? ⟨w.heap.size, 1, none⟩ = some (.int .i64 b)) ∧ v.drew.cell? ⟨w.heap.size + 1, 0, none⟩ = some (.int .i64 c) ∧ v.drew.cell? ⟨w.heap.size + 1, 1, none⟩ = some (.int .i64 d)) := Lib.hid ⟨⟨bf.1, bf.2.1⟩, bg.1, bg.2.1⟩
  have hS0 := HS.out
  clear bf bg
  refine tamed_region (S := fun w' => (w'.cell? ⟨w.heap.size, 0, none⟩ = some (.int .i64 a) ∧ w'.cell? ⟨w.heap.size, 1, none⟩ = some (.int .i64 b)) ∧ w'.cell? ⟨w.heap.size + 1, 0, none⟩ = some (.int .i64 c) ∧ w'.cell? ⟨w.heap.size + 1, 1, none⟩ = some (.int .i64 d)) (fun _ => false) (by kernel_rfl) ?_
  refine tame0 (k := 0) ?_ rfl (by kernel_rfl) (by kernel_rfl) (by kernel_rfl) (fun _ _ _ h => h) (by kernel_rfl) (fun v => ?_) ?_
  rotate_left
  · (go_simp; all_goals rfl)
  simp only [Act.put, List.setIfInBounds_toArray]
  refine tame (k := 1) ?_ rfl (by kernel_rfl) (by kernel_rfl) (by kernel_rfl) (by kernel_rfl) (fun _ _ _ h => h) (by kernel_rfl) hS0 (fun v hv => ?_) ?_
  rotate_left
  · (obtain ⟨⟨k1, k2⟩, k3, k4⟩ := hv; go_simp; all_goals rfl)
  simp only [Act.put]
  refine tame0 (k := 2) ?_ rfl (by kernel_rfl) (by kernel_rfl) (by kernel_rfl) (fun _ _ _ h => h) (by kernel_rfl) (fun v => ?_) ?_
  rotate_left
  · (go_simp; all_goals rfl)
  simp only [Act.put]
  refine tame (k := 3) ?_ rfl (by kernel_rfl) (by kernel_rfl) (by kernel_rfl) (by kernel_rfl) (fun _ _ _ h => h) (by kernel_rfl) hS0 (fun v hv => ?_) ?_
  rotate_left
  · (obtain ⟨⟨k1, k2⟩, k3, k4⟩ := hv; go_simp; all_goals rfl)
  simp only [Act.put]
  refine tame0 (k := 4) ?_ rfl (by kernel_rfl) (by kernel_rfl) (by kernel_rfl) (fun _ _ _ h => h) (by kernel_rfl) (fun v => ?_) ?_
  rotate_left
  · (go_simp; all_goals rfl)
  simp only [Act.put]
  refine tame0 (k := 5) ?_ rfl (by kernel_rfl) (by kernel_rfl) (by kernel_rfl) (fun _ _ _ h => h) (by kernel_rfl) (fun v => ?_) ?_
  rotate_left
  · (go_simp; all_goals rfl)
  simp only [Act.put]
  refine tame (k := 6) ?_ rfl (by kernel_rfl) (by kernel_rfl) (by kernel_rfl) (by kernel_rfl) (fun _ _ _ h => h) (by kernel_rfl) hS0 (fun v hv => ?_) ?_
  rotate_left
  · (obtain ⟨⟨k1, k2⟩, k3, k4⟩ := hv; go_simp; all_goals rfl)
  simp only [Act.put]
  refine tame0 (k := 7) ?_ rfl (by kernel_rfl) (by kernel_rfl) (by kernel_rfl) (fun _ _ _ h => h) (by kernel_rfl) (fun v => ?_) ?_
  rotate_left
  · (go_simp; all_goals rfl)
  simp only [Act.put]
  refine tame (k := 8) ?_ rfl (by kernel_rfl) (by kernel_rfl) (by kernel_rfl) (by kernel_rfl) (fun _ _ _ h => h) (by kernel_rfl) hS0 (fun v hv => ?_) ?_
  rotate_left
  · (obtain ⟨⟨k1, k2⟩, k3, k4⟩ := hv; go_simp; all_goals rfl)
  simp only [Act.put]
  refine tame0 (k := 9) ?_ rfl (by kernel_rfl) (by kernel_rfl) (by kernel_rfl) (fun _ _ _ h => h) (by kernel_rfl) (fun v => ?_) ?_
  rotate_left
  · (go_simp; all_goals rfl)
  simp only [Act.put]
  clear hS0
  refine tame_one (k := 10) (by kernel_rfl) rfl (by kernel_rfl) ?_
  go_simp
  refine ⟨by first | exact HS.out, ?_⟩
  refine tame_one (k := 11) (by kernel_rfl) rfl (by kernel_rfl) ?_
  go_simp
  refine ⟨by first | exact HS.out, ?_⟩
  refine tame_end (by kernel_rfl) ?_
  clear HS
  have HB2 := HB1.drew
  by_cases h1 : a * d < c * b
  · have HC1 : Hid (cmpI (a, b) (c, d) = -1) := Lib.hid (by rw [HC.out, if_pos h1])
    go_wp2_with fail
    go_ret
    exact ⟨by rw [HC1.out] <;> rfl, HB2⟩
  · by_cases h2 : c * b < a * d
    · have HC1 : Hid (cmpI (a, b) (c, d) = 1) := Lib.hid (by rw [HC.out, if_neg h1, if_pos h2])
      go_wp2_with fail
      go_ret
      exact ⟨by rw [HC1.out] <;> rfl, HB2⟩
    · have HC1 : Hid (cmpI (a, b) (c, d) = 0) := Lib.hid (by rw [HC.out, if_neg h1, if_neg h2])
      go_wp2_with fail
      go_ret
      exact ⟨by rw [HC1.out] <;> rfl, HB2⟩

end Go.Proofs.Ytfobjkdkjlbkfaa
