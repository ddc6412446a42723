/- AreFairWeights: the reference's walk. (Written by gen_afs.py.) -/
import Derived.Test.YtnhclpajfejnoaaAfI
namespace Go.Proofs.Ytnhclpajfejnoaa
open Go.RowKit

/-- Numbers of the first k nodes: products. -/
def prTo (s F : List Int) (k : Nat) : List Int := (List.range k).map fun i => nth s i * nth F i
theorem prTo_succ (s F : List Int) (k : Nat) : prTo s F (k + 1) = prTo s F k ++ [nth s k * nth F k] := by simp [prTo, List.range_succ]
theorem prTo_length (s F : List Int) (k : Nat) : (prTo s F k).length = k := by simp [prTo]
theorem prTo_nth {s F : List Int} {k i : Nat} (h : i < k) : nth (prTo s F k) i = pS s F i := by simp [nth, prTo, pS, h]
theorem kS_congr {P : List Int} {u v : Nat → Int} {x : Nat} (h : ∀ y, y < P.length → u y = v y) : ∀ k, k ≤ (kids P (x : Int)).length → kS P u x k = kS P v x k := by
  intro k
  induction k with
  | zero => intro _; rfl
  | succ k ih =>
    intro hk
    obtain ⟨j, hj, hjn⟩ := kid_nat' (P := P) (x := x) (k := k) (by omega)
    rw [kS_succ, kS_succ, ih (by omega), hjn, Int.toNat_natCast, h j hj]

theorem l4Kids_c (A1 : Option Addr) (P : List Int) (c1 : Nat) (A2 : Option Addr) (n2 c2 : Nat) (A4 : Option Addr) (ps : List Int) (c4 : Nat) (x : Nat) (w : World) (h1 : Rd w A1 (ints P)) (h4 : Rd w A4 (ints ps)) (hp : ParOk P) (hn : P.length ≤ 24) (hx : x < P.length) (hl : ps.length = P.length)
    (hb : ∀ y, 0 ≤ nth ps y ∧ nth ps y ≤ 9600) :
    Calls Try.prog 132 #[trV A1 P.length c1 A2 n2 c2, .slice A4 ps.length c4, .int .i64 (x : Int)] w (Quietly w (.int .i64 (kidS P (nth ps) x))) := by
  have HB1 : Below w.heap.size w (w.alloc (.cells #[.slice A1 P.length c1, .slice A2 n2 c2] 26)) := (Below.refl _ _).alloc (Nat.le_refl _) _
  have HL := Lib.hid hl
  clear hl
  go_enter Try.func132, Try.ntmps132
  go_wp2_with fail
  refine (l2Kids_c A1 P c1 A2 n2 c2 x _ (h1.below HB1 (Nat.le_refl _)) hp hx hn).mono ?_
  rintro e w2 ⟨Ak, ck, rfl, ok, hb2⟩
  have HB2 := bUp HB1 hb2 HB1.size
  have hrk := ok.rd
  have h42 := h4.below HB2 (Nat.le_refl _)
  have hkl := kidTo_len P (x : Int) P.length
  change (kids P (x : Int)).length ≤ _ at hkl
  clear ok hb2
  go_wp2
  go_loop [7, 9] (fun t i => ∃ k : Nat, k ≤ (kids P (x : Int)).length ∧ i = .int .i64 (k : Int) ∧ t = .int .i64 (kS P (nth ps) x k)) (fun _ i => (kids P (x : Int)).length - (intOf i).toNat)
  case atStart => exact ⟨0, by omega, rfl, rfl⟩
  case round =>
    obtain ⟨k, hk, rfl, rfl⟩ := hrel
    have bk := kS_bd (P := P) (M := 9600) (by decide) hb x k
    by_cases hlt : k < (kids P (x : Int)).length
    · obtain ⟨j, hj, hjn⟩ := kid_nat' hlt
      obtain ⟨ak, rfl, qk⟩ := hrk.intN hlt
      rw [hjn] at qk
      obtain ⟨a4, rfl, q4⟩ := h42.intN (k := j) (by have := HL.out; omega)
      have hks : kS P (nth ps) x (k + 1) = kS P (nth ps) x k + nth ps j := by rw [kS_succ, hjn, Int.toNat_natCast]
      have HK := Lib.hid hks
      have bj := hb j
      have i2 : (j : Int) < (ps.length : Int) := by have := HL.out; omega
      clear hks hjn
      go_wp2
      go_round
      case rel => exact ⟨k + 1, by omega, by go_num, by rw [HK.out]⟩
      case measure => simp [intOf] <;> omega
    · have hkn : k = (kids P (x : Int)).length := by omega
      subst hkn
      go_wp2
      go_ret
      exact ⟨rfl, HB2⟩

set_option maxRecDepth 20000 in
set_option maxHeartbeats 2000000 in
theorem l4Balanced_c (A1 : Option Addr) (P : List Int) (c1 : Nat) (A2 : Option Addr) (V : List Int) (c2 : Nat) (A3 : Option Addr) (F : List Int) (c3 : Nat) (w : World) (h1 : Rd w A1 (ints P)) (h2 : Rd w A2 (ints V)) (h3 : Rd w A3 (ints F)) (ht : TreeOk P V) (hF : F.length = P.length) (hFb : allB F 0 20 = true) :
    Calls Try.prog 89 #[trV A1 P.length c1 A2 V.length c2, .slice A3 F.length c3] w (Quietly w (.bool (balA P (gath P V) F))) := by
  have HB1 : Below w.heap.size w (w.alloc (.cells #[.slice A1 P.length c1, .slice A2 V.length c2] 26)) := (Below.refl _ _).alloc (Nat.le_refl _) _
  have bx := Bx.new w (.slice A1 P.length c1) (.slice A2 V.length c2) 26
  have HF := Lib.hid hF
  have hn1 := ht.n1
  have hn2 := ht.n2
  have hf24 : F.length ≤ 24 := by omega
  have HT := Lib.hid ht
  have bS := gath_bd ht.par ht.len (fun i => ht.w0 i) hn2 hn1
  have BP := Lib.hid (pS_bd bS hFb)
  have hSl : (gath P V).length = P.length := by rw [gath_length, ht.len]
  have HSl := Lib.hid hSl
  clear hF
  go_enter Try.func89, Try.ntmps89
  go_wp2_with fail
  refine (l2Sums_c A1 P c1 A2 V c2 _ (h1.below HB1 (Nat.le_refl _)) (h2.below HB1 (Nat.le_refl _)) ht.par hn1 hn2 ht.len (fun i => ht.w0 i)).mono ?_
  rintro e w2 ⟨As, cs, rfl, os, hb2⟩
  have HB2 := bUp HB1 hb2 HB1.size
  have HB3 : Below w.heap.size w (w2.alloc (.cells #[] 3)) := HB2.alloc HB2.size _
  have bx3 := (bx.below hb2).alloc (.cells #[] 3)
  have o0 := Own.lit0 w2 w2.heap.size rfl
  have os3 := os.alloc (.cells #[] 3)
  have hn0 := os.apart o0 (Nat.le_refl _)
  have hz2 := HB2.size
  have hz12 : w.heap.size < w2.heap.size := by have := (bx.below hb2).2.2.2.2; exact this
  generalize hSd : gath P V = S at *
  rw [hSl]
  clear bx HB1 HB2 hb2 os hSl ht bS
  go_wp2
  go_loopw [6, 7] (fun t i wr => ∃ k : Nat, ∃ A c, k ≤ F.length ∧ i = .int .i64 (k : Int) ∧ t = .slice A k c ∧ Own wr w2.heap.size A c (prTo S F k) ∧ w2.heap.size ≤ wr.heap.size ∧ Own wr (w.heap.size + 1) As cs S ∧ (As = none ∨ blk As ≠ blk A) ∧ Bx wr w.heap.size (.slice A1 P.length c1) (.slice A2 V.length c2) ∧ Below w.heap.size w wr) (fun _ i _ => F.length - (intOf i).toNat)
  case atStart => exact ⟨0, _, _, by omega, rfl, rfl, o0, by simp, os3.mono (by simp), hn0, bx3, HB3⟩
  case round =>
    obtain ⟨wo, rfl⟩ : ∃ wo : World, wo = wr := ⟨_, rfl⟩
    obtain ⟨k, A, c, hk, rfl, rfl, ho, hwz, po, hne, hxx, hB⟩ := hrel
    clear o0 os3 hn0 bx3 HB3
    have hx' := hxx
    by_cases hlt : k < F.length
    · obtain ⟨aS, rfl, qs⟩ := po.rd.intN (k := k) (by rw [HSl.out]; have := HF.out; omega)
      obtain ⟨a3, rfl, q3⟩ := (h3.below hB (Nat.le_refl _)).intN hlt
      have HP := Lib.hid (prTo_succ S F k)
      have bp := BP.out k
      unfold pS at bp
      have e1 : IntKind.i64.wrap (nth S k * nth F k) = nth S k * nth F k := IntWalk.i64_in _ (by omega)
      have i1 : (0 : Int) ≤ (k : Int) := by omega
      have i2 : (k : Int) < (P.length : Int) := by have := HF.out; omega
      have i3 : (k : Int) < (F.length : Int) := by omega
      have hbz := hB.size
      have hS0 : (fun w' : World => w'.cell? (aS.add k) = some (.int .i64 (nth S k)) ∧ w'.cell? (a3.add k) = some (.int .i64 (nth F k))) wo.drew := ⟨qs, q3⟩
      clear bp hxx
      go_wp2
      clear qs q3
      refine tamed_region (S := fun w' => w'.cell? (aS.add k) = some (.int .i64 (nth S k)) ∧ w'.cell? (a3.add k) = some (.int .i64 (nth F k))) (fun k => decide (10 ≤ k)) (by kernel_rfl) ?_
      refine tame0 (k := 0) ?_ rfl (by kernel_rfl) (by kernel_rfl) (by kernel_rfl) (fun _ _ _ h => h) (by rfl) (fun v => ?_) ?_
      rotate_left
      · (go_simp; all_goals rfl)
      simp only [Act.put, List.setIfInBounds_toArray]
      refine tame0 (k := 1) ?_ rfl (by kernel_rfl) (by kernel_rfl) (by kernel_rfl) (fun _ _ _ h => h) (by rfl) (fun v => ?_) ?_
      rotate_left
      · (go_simp; all_goals rfl)
      simp only [Act.put]
      refine tame0 (k := 2) ?_ rfl (by kernel_rfl) (by kernel_rfl) (by kernel_rfl) (fun _ _ _ h => h) (by rfl) (fun v => ?_) ?_
      rotate_left
      · (go_simp; all_goals rfl)
      simp only [Act.put]
      refine tame0 (k := 3) ?_ rfl (by kernel_rfl) (by kernel_rfl) (by kernel_rfl) (fun _ _ _ h => h) (by rfl) (fun v => ?_) ?_
      rotate_left
      · (go_simp; all_goals rfl)
      simp only [Act.put]
      refine tameT (k := 4) ?_ rfl (by kernel_rfl) (by kernel_rfl) (by kernel_rfl) (by kernel_rfl) (by kernel_rfl) (fun _ _ _ h => h) (by rfl) hS0 (fun v hv => ?_) ?_
      rotate_left
      · (obtain ⟨k1, k2⟩ := hv; go_simp; all_goals rfl)
      simp only [Act.put]
      refine tame0 (k := 5) ?_ rfl (by kernel_rfl) (by kernel_rfl) (by kernel_rfl) (fun _ _ _ h => h) (by rfl) (fun v => ?_) ?_
      rotate_left
      · (go_simp; all_goals rfl)
      simp only [Act.put]
      refine tame0 (k := 6) ?_ rfl (by kernel_rfl) (by kernel_rfl) (by kernel_rfl) (fun _ _ _ h => h) (by rfl) (fun v => ?_) ?_
      rotate_left
      · (go_simp; all_goals rfl)
      simp only [Act.put]
      refine tame0 (k := 7) ?_ rfl (by kernel_rfl) (by kernel_rfl) (by kernel_rfl) (fun _ _ _ h => h) (by rfl) (fun v => ?_) ?_
      rotate_left
      · (go_simp; all_goals rfl)
      simp only [Act.put]
      refine tameT (k := 8) ?_ rfl (by kernel_rfl) (by kernel_rfl) (by kernel_rfl) (by kernel_rfl) (by kernel_rfl) (fun _ _ _ h => h) (by rfl) hS0 (fun v hv => ?_) ?_
      rotate_left
      · (obtain ⟨k1, k2⟩ := hv; go_simp; all_goals rfl)
      simp only [Act.put]
      refine tame0 (k := 9) ?_ rfl (by kernel_rfl) (by kernel_rfl) (by kernel_rfl) (fun _ _ _ h => h) (by rfl) (fun v => ?_) ?_
      rotate_left
      · (go_simp; all_goals rfl)
      simp only [Act.put]
      clear hS0
      refine tame_one (k := 10) (by kernel_rfl) rfl (by rfl) ?_
      go_simp
      refine tame_one (k := 11) (by kernel_rfl) rfl (by rfl) ?_
      refine op_append_ints _ (.tmp 18) (.tmp 28) rfl w2.heap.size A k c (prTo S F k) rfl (by rw [prTo_length]) (ho.alloc _).drew (some ⟨wo.heap.size, 0, none⟩) 1 1 [nth S k * nth F k] rfl rfl (Rd.box wo _ _).drew (by rw [prTo_length]; simp; omega) (by simp; omega) ?_
      rw [← HP.out]
      intro A4 c4 w3 ho2 hg2 hb2
      refine ⟨fun h => by simp at h, ?_⟩
      have hg3 := grown_of_alloc_drew hg2
      have HB4 := hB.grown hg3 hB.size (fun k hk => by have := ho.ge k hk; omega)
      have po3 := po.grown hg3 hne
      have hg3z := hg3.size
      have hx3 := hx'.grown hg3 (row_ne ho (by omega))
      have hne' : some aS = none ∨ blk (some aS) ≠ blk A4 := by
        rcases hb2 with hb | hb
        · rw [hb]; exact hne
        · right
          rw [hb]
          have := (po.lt _ rfl).2
          simp [blk]; omega
      clear hg2 hg3 e1 hb2 po hne
      refine tame_one (k := 12) (by kernel_rfl) rfl (by rfl) ?_
      go_simp
      refine tame_end (by kernel_rfl) ?_
      go_wp2
      go_roundw
      case rel => exact ⟨k + 1, A4, c4, by omega, by go_num, rfl, ho2, by have := hg3z; omega, po3, hne', hx3, HB4⟩
      case measure => simp [intOf] <;> omega
    · have hkn : k = F.length := by omega
      subst hkn
      have hpl := prTo_length S F F.length
      have hbp : ∀ y, 0 ≤ nth (prTo S F F.length) y ∧ nth (prTo S F F.length) y ≤ 9600 := fun y => by
        rcases Nat.lt_or_ge y F.length with h' | h'
        · rw [prTo_nth h']; exact BP.out y
        · rw [nth_big (by rw [prTo_length]; exact h')]; omega
      have hHk : Hid (∀ x, kidS P (nth (prTo S F F.length)) x = kidS P (pS S F) x) := Lib.hid fun x => kS_congr (fun y hy => prTo_nth (by have := HF.out; omega)) _ (Nat.le_refl _)
      have HN := Lib.hid (fun (y : Nat) (hy : y < F.length) => prTo_nth (s := S) (F := F) hy)
      have hBp := Lib.hid hbp
      generalize prTo S F F.length = pr at *
      clear hbp po hne hxx
      go_wp2
      go_loopw [8] (fun i wr => ∃ k : Nat, k ≤ F.length ∧ i = .int .i64 (k : Int) ∧ (∀ j, j < k → balX P S F j = true) ∧ Own wr w2.heap.size A c pr ∧ Bx wr w.heap.size (.slice A1 P.length c1) (.slice A2 V.length c2) ∧ Below w.heap.size w wr) (fun i _ => F.length - (intOf i).toNat)
      case atStart => exact ⟨0, by omega, rfl, fun j hj => by omega, ho, hx', hB⟩
      case round =>
        obtain ⟨wi, rfl⟩ : ∃ wi : World, wi = wr := ⟨_, rfl⟩
        obtain ⟨k, hk, rfl, hall, po, hxx, hBi⟩ := hrel
        clear ho hx' hB
        have HAl := Lib.hid hall
        clear hall
        have hx' := hxx
        obtain ⟨f0, f1, f2, f3, f4⟩ := hxx
        by_cases hlt : k < F.length
        · have hkP : k < P.length := by have := HF.out; omega
          have hkV : k < V.length := by have := HT.out.len; omega
          obtain ⟨a2, rfl, q2⟩ := (h2.below hBi (Nat.le_refl _)).intN hkV
          obtain ⟨ap, rfl, qp⟩ := po.rd.intN (k := k) (by rw [hpl]; exact hlt)
          rw [HN.out k hlt] at qp
          have i1 : (0 : Int) ≤ (k : Int) := by omega
          have i2 : (k : Int) < (V.length : Int) := by omega
          have i3 : (k : Int) < (F.length : Int) := by omega
          have hwt := HT.out.wt k hkP
          cases he : endB P k
          · rw [he] at hwt
            simp only [Bool.false_eq_true, if_false] at hwt
            rw [hwt] at q2
            have CK := fun (v : World) (hv : Below wi.heap.size wi v) => l4Kids_c A1 P c1 (some a2) V.length c2 (some ap) pr c k v (h1.below (bUp hBi hv hBi.size) (Nat.le_refl _)) (po.below hv).rd HT.out.par hn2 hkP (by rw [hpl]; exact HF.out) hBp.out
            rw [hpl, hHk.out] at CK
            have CK := Lib.hid CK
            have SK : Hid (∀ w', Below wi.heap.size wi w' → w'.cell? (a2.add k) = some (.int .i64 0) ∧ w'.cell? (ap.add k) = some (.int .i64 (pS S F k)) ∧ w'.cell? ⟨w.heap.size, 0, none⟩ = some (.slice A1 P.length c1) ∧ w'.cell? ⟨w.heap.size, 1, none⟩ = some (.slice (some a2) V.length c2)) :=
              Lib.hid fun w' HV => ⟨(HV.cell (p := a2.add k) (cell_lt q2)).trans q2, (HV.cell (p := ap.add k) (cell_lt qp)).trans qp, (HV.cell (p := ⟨w.heap.size, 0, none⟩) f4).trans f0, (HV.cell (p := ⟨w.heap.size, 1, none⟩) f4).trans f1⟩
            have hd : Below wi.heap.size wi wi.drew := Below.drew (Below.refl _ _)
            have hS0 := SK.out wi.drew hd
            by_cases hs : kidS P (pS S F) k = pS S F k
            · have e2 : (pS S F k != kidS P (pS S F) k) = false := by simp [hs]
              have HNx : Hid (∀ j, j < k + 1 → balX P S F j = true) := Lib.hid fun j hj => by
                rcases Nat.lt_or_ge j k with h' | h'
                · exact HAl.out j h'
                · rw [show j = k by omega]; exact balX_in he (decide_eq_true hs)
              clear hs he
              go_wp2
              clear q2 qp f0 f1 f2 f3 f4
              refine tamed_region (S := fun w' => w'.cell? (a2.add k) = some (.int .i64 0) ∧ w'.cell? (ap.add k) = some (.int .i64 (pS S F k)) ∧ w'.cell? ⟨w.heap.size, 0, none⟩ = some (.slice A1 P.length c1) ∧ w'.cell? ⟨w.heap.size, 1, none⟩ = some (.slice (some a2) V.length c2)) (fun _ => false) (by kernel_rfl) ?_
              refine tame0 (k := 0) ?_ rfl (by kernel_rfl) (by kernel_rfl) (by kernel_rfl) (fun _ _ _ h => h) (by kernel_rfl) (fun v => ?_) ?_
              rotate_left
              · (go_simp; all_goals rfl)
              simp only [Act.put, List.setIfInBounds_toArray]
              refine tame (k := 1) ?_ rfl (by kernel_rfl) (by kernel_rfl) (by kernel_rfl) (by kernel_rfl) (fun _ _ _ h => h) (by kernel_rfl) hS0 (fun v hv => ?_) ?_
              rotate_left
              · (obtain ⟨k1, k2, k3, k4⟩ := hv; go_simp; all_goals rfl)
              simp only [Act.put]
              refine tame0 (k := 2) ?_ rfl (by kernel_rfl) (by kernel_rfl) (by kernel_rfl) (fun _ _ _ h => h) (by kernel_rfl) (fun v => ?_) ?_
              rotate_left
              · (go_simp; all_goals rfl)
              simp only [Act.put]
              refine tame0 (k := 3) ?_ rfl (by kernel_rfl) (by kernel_rfl) (by kernel_rfl) (fun _ _ _ h => h) (by kernel_rfl) (fun v => ?_) ?_
              rotate_left
              · (go_simp; all_goals rfl)
              simp only [Act.put]
              refine tame (k := 4) ?_ rfl (by kernel_rfl) (by kernel_rfl) (by kernel_rfl) (by kernel_rfl) (fun _ _ _ h => h) (by kernel_rfl) hS0 (fun v hv => ?_) ?_
              rotate_left
              · (obtain ⟨k1, k2, k3, k4⟩ := hv; go_simp; all_goals rfl)
              simp only [Act.put]
              refine tame0 (k := 5) ?_ rfl (by kernel_rfl) (by kernel_rfl) (by kernel_rfl) (fun _ _ _ h => h) (by kernel_rfl) (fun v => ?_) ?_
              rotate_left
              · (go_simp; all_goals rfl)
              simp only [Act.put]
              refine tame0 (k := 6) ?_ rfl (by kernel_rfl) (by kernel_rfl) (by kernel_rfl) (fun _ _ _ h => h) (by kernel_rfl) (fun v => ?_) ?_
              rotate_left
              · (go_simp; all_goals rfl)
              simp only [Act.put]
              refine tame0 (k := 7) ?_ rfl (by kernel_rfl) (by kernel_rfl) (by kernel_rfl) (fun _ _ _ h => h) (by kernel_rfl) (fun v => ?_) ?_
              rotate_left
              · (go_simp; all_goals rfl)
              simp only [Act.put]
              refine tame0 (k := 8) ?_ rfl (by kernel_rfl) (by kernel_rfl) (by kernel_rfl) (fun _ _ _ h => h) (by kernel_rfl) (fun v => ?_) ?_
              rotate_left
              · (go_simp; all_goals rfl)
              simp only [Act.put]
              refine tame0 (k := 9) ?_ rfl (by kernel_rfl) (by kernel_rfl) (by kernel_rfl) (fun _ _ _ h => h) (by kernel_rfl) (fun v => ?_) ?_
              rotate_left
              · (go_simp; all_goals rfl)
              simp only [Act.put]
              refine tame (k := 10) ?_ rfl (by kernel_rfl) (by kernel_rfl) (by kernel_rfl) (by kernel_rfl) (fun _ _ _ h => h) (by kernel_rfl) hS0 (fun v hv => ?_) ?_
              rotate_left
              · (obtain ⟨k1, k2, k3, k4⟩ := hv; go_simp; all_goals rfl)
              simp only [Act.put]
              refine tame (k := 11) ?_ rfl (by kernel_rfl) (by kernel_rfl) (by kernel_rfl) (by kernel_rfl) (fun _ _ _ h => h) (by kernel_rfl) hS0 (fun v hv => ?_) ?_
              rotate_left
              · (obtain ⟨k1, k2, k3, k4⟩ := hv; go_simp; all_goals rfl)
              simp only [Act.put]
              refine tame0 (k := 12) ?_ rfl (by kernel_rfl) (by kernel_rfl) (by kernel_rfl) (fun _ _ _ h => h) (by kernel_rfl) (fun v => ?_) ?_
              rotate_left
              · (go_simp; all_goals rfl)
              simp only [Act.put]
              refine tame0 (k := 13) ?_ rfl (by kernel_rfl) (by kernel_rfl) (by kernel_rfl) (fun _ _ _ h => h) (by kernel_rfl) (fun v => ?_) ?_
              rotate_left
              · (go_simp; all_goals rfl)
              simp only [Act.put]
              clear hS0
              refine tame_one (k := 14) (by kernel_rfl) rfl (by kernel_rfl) ?_
              go_simp
              refine (CK.out _ hd).mono ?_
              rintro e w5 ⟨rfl, hb5⟩
              have hv5 := bUp hd hb5 (Nat.le_refl _)
              have HB5 := bUp hBi hv5 hBi.size
              have po5 := po.below hv5
              have hx5 := hx'.below hv5
              refine ⟨SK.out _ hv5, ?_⟩
              refine tame_one (k := 15) (by kernel_rfl) rfl (by kernel_rfl) ?_
              go_simp
              refine ⟨SK.out _ hv5, ?_⟩
              refine tame_one (k := 16) (by kernel_rfl) rfl (by kernel_rfl) ?_
              go_simp
              refine ⟨SK.out _ hv5, ?_⟩
              refine tame_end (by kernel_rfl) ?_
              clear SK CK hb5 hv5 hd
              go_wp2
              go_roundw
              case rel => exact ⟨k + 1, by omega, by go_num, HNx.out, po5, hx5, HB5⟩
              case measure => simp [intOf] <;> omega
            · have e2 : (pS S F k != kidS P (pS S F) k) = true := by simp; exact fun h' => hs h'.symm
              have HNx : Hid (balA P S F = false) := Lib.hid (all_no hkP (balX_in he (decide_eq_false hs)))
              clear hs he
              go_wp2
              clear q2 qp f0 f1 f2 f3 f4
              refine tamed_region (S := fun w' => w'.cell? (a2.add k) = some (.int .i64 0) ∧ w'.cell? (ap.add k) = some (.int .i64 (pS S F k)) ∧ w'.cell? ⟨w.heap.size, 0, none⟩ = some (.slice A1 P.length c1) ∧ w'.cell? ⟨w.heap.size, 1, none⟩ = some (.slice (some a2) V.length c2)) (fun _ => false) (by kernel_rfl) ?_
              refine tame0 (k := 0) ?_ rfl (by kernel_rfl) (by kernel_rfl) (by kernel_rfl) (fun _ _ _ h => h) (by kernel_rfl) (fun v => ?_) ?_
              rotate_left
              · (go_simp; all_goals rfl)
              simp only [Act.put, List.setIfInBounds_toArray]
              refine tame (k := 1) ?_ rfl (by kernel_rfl) (by kernel_rfl) (by kernel_rfl) (by kernel_rfl) (fun _ _ _ h => h) (by kernel_rfl) hS0 (fun v hv => ?_) ?_
              rotate_left
              · (obtain ⟨k1, k2, k3, k4⟩ := hv; go_simp; all_goals rfl)
              simp only [Act.put]
              refine tame0 (k := 2) ?_ rfl (by kernel_rfl) (by kernel_rfl) (by kernel_rfl) (fun _ _ _ h => h) (by kernel_rfl) (fun v => ?_) ?_
              rotate_left
              · (go_simp; all_goals rfl)
              simp only [Act.put]
              refine tame0 (k := 3) ?_ rfl (by kernel_rfl) (by kernel_rfl) (by kernel_rfl) (fun _ _ _ h => h) (by kernel_rfl) (fun v => ?_) ?_
              rotate_left
              · (go_simp; all_goals rfl)
              simp only [Act.put]
              refine tame (k := 4) ?_ rfl (by kernel_rfl) (by kernel_rfl) (by kernel_rfl) (by kernel_rfl) (fun _ _ _ h => h) (by kernel_rfl) hS0 (fun v hv => ?_) ?_
              rotate_left
              · (obtain ⟨k1, k2, k3, k4⟩ := hv; go_simp; all_goals rfl)
              simp only [Act.put]
              refine tame0 (k := 5) ?_ rfl (by kernel_rfl) (by kernel_rfl) (by kernel_rfl) (fun _ _ _ h => h) (by kernel_rfl) (fun v => ?_) ?_
              rotate_left
              · (go_simp; all_goals rfl)
              simp only [Act.put]
              refine tame0 (k := 6) ?_ rfl (by kernel_rfl) (by kernel_rfl) (by kernel_rfl) (fun _ _ _ h => h) (by kernel_rfl) (fun v => ?_) ?_
              rotate_left
              · (go_simp; all_goals rfl)
              simp only [Act.put]
              refine tame0 (k := 7) ?_ rfl (by kernel_rfl) (by kernel_rfl) (by kernel_rfl) (fun _ _ _ h => h) (by kernel_rfl) (fun v => ?_) ?_
              rotate_left
              · (go_simp; all_goals rfl)
              simp only [Act.put]
              refine tame0 (k := 8) ?_ rfl (by kernel_rfl) (by kernel_rfl) (by kernel_rfl) (fun _ _ _ h => h) (by kernel_rfl) (fun v => ?_) ?_
              rotate_left
              · (go_simp; all_goals rfl)
              simp only [Act.put]
              refine tame0 (k := 9) ?_ rfl (by kernel_rfl) (by kernel_rfl) (by kernel_rfl) (fun _ _ _ h => h) (by kernel_rfl) (fun v => ?_) ?_
              rotate_left
              · (go_simp; all_goals rfl)
              simp only [Act.put]
              refine tame (k := 10) ?_ rfl (by kernel_rfl) (by kernel_rfl) (by kernel_rfl) (by kernel_rfl) (fun _ _ _ h => h) (by kernel_rfl) hS0 (fun v hv => ?_) ?_
              rotate_left
              · (obtain ⟨k1, k2, k3, k4⟩ := hv; go_simp; all_goals rfl)
              simp only [Act.put]
              refine tame (k := 11) ?_ rfl (by kernel_rfl) (by kernel_rfl) (by kernel_rfl) (by kernel_rfl) (fun _ _ _ h => h) (by kernel_rfl) hS0 (fun v hv => ?_) ?_
              rotate_left
              · (obtain ⟨k1, k2, k3, k4⟩ := hv; go_simp; all_goals rfl)
              simp only [Act.put]
              refine tame0 (k := 12) ?_ rfl (by kernel_rfl) (by kernel_rfl) (by kernel_rfl) (fun _ _ _ h => h) (by kernel_rfl) (fun v => ?_) ?_
              rotate_left
              · (go_simp; all_goals rfl)
              simp only [Act.put]
              refine tame0 (k := 13) ?_ rfl (by kernel_rfl) (by kernel_rfl) (by kernel_rfl) (fun _ _ _ h => h) (by kernel_rfl) (fun v => ?_) ?_
              rotate_left
              · (go_simp; all_goals rfl)
              simp only [Act.put]
              clear hS0
              refine tame_one (k := 14) (by kernel_rfl) rfl (by kernel_rfl) ?_
              go_simp
              refine (CK.out _ hd).mono ?_
              rintro e w5 ⟨rfl, hb5⟩
              have hv5 := bUp hd hb5 (Nat.le_refl _)
              have HB5 := bUp hBi hv5 hBi.size
              have po5 := po.below hv5
              have hx5 := hx'.below hv5
              refine ⟨SK.out _ hv5, ?_⟩
              refine tame_one (k := 15) (by kernel_rfl) rfl (by kernel_rfl) ?_
              go_simp
              refine ⟨SK.out _ hv5, ?_⟩
              refine tame_one (k := 16) (by kernel_rfl) rfl (by kernel_rfl) ?_
              go_simp
              refine ⟨SK.out _ hv5, ?_⟩
              refine tame_end (by kernel_rfl) ?_
              clear SK CK hb5 hv5 hd
              go_wp2
              go_ret
              exact ⟨by rw [HNx.out] <;> rfl, HB5⟩
          · rw [he] at hwt
            simp only [if_true] at hwt
            have e2 : (nth V k == 0) = false := by simp; omega
            have HNx : Hid (∀ j, j < k + 1 → balX P S F j = true) := Lib.hid fun j hj => by
              rcases Nat.lt_or_ge j k with h' | h'
              · exact HAl.out j h'
              · rw [show j = k by omega]; exact balX_end he
            clear he
            go_wp2
            go_quiet (fail)
            go_wp2
            go_roundw
            case rel => exact ⟨k + 1, by omega, by go_num, HNx.out, po.drewN _, hx'.drewN _, bDrewN hBi _⟩
            case measure => simp [intOf] <;> omega
        · have HNN : Hid (balA P S F = true) := Lib.hid (all_yes fun x hx => HAl.out x (by have := HF.out; omega))
          go_wp2
          go_ret
          exact ⟨by rw [HNN.out] <;> rfl, hBi⟩
end Go.Proofs.Ytnhclpajfejnoaa
