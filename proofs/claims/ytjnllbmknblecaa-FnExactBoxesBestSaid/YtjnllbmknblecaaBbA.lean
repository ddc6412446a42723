/- Boxes opened in any order: the reference's table. (Written by gen_bba.py.) -/
import Derived.Test.YtjnllbmknblecaaBbS
import Derived.Test.YtjnllbmknblecaaRowN
namespace Go.Proofs.Ytjnllbmknblecaa
open Go.RowKit

/-- The best of stopping and of opening one of the boxes below i, for a set's number. -/
def mV (L : List Bxd) (k s i : Nat) : Int := mS (fun j => bval ((sub L k).eraseIdx j)) (sub L k) s (cnt k i)
theorem mV_0 (L : List Bxd) (k s : Nat) : mV L k s 0 = s * scB (sub L k) := rfl
theorem mV_no {L : List Bxd} {k i : Nat} (s : Nat) (h : bitB k i = false) : mV L k s (i + 1) = mV L k s i := by
  unfold mV
  rw [cnt_succ, h]
  rfl
theorem sub_sc {L : List Bxd} {k i : Nat} (hi : i < L.length) (h : bitB k i = true) : scB (sub L (k - 2 ^ i)) * sm (bAt L i).w = scB (sub L k) := by
  obtain ⟨h1, h2, h3⟩ := sub_at L k i hi h
  rw [scB_erase h1, h2, h3]
theorem mV_yes {L : List Bxd} {k i : Nat} (s : Nat) (hi : i < L.length) (h : bitB k i = true) : mV L k s (i + 1) = mxI (mV L k s i) (oS (bval (sub L (k - 2 ^ i))) (bAt L i) (scB (sub L k)) s (bAt L i).w.length) := by
  obtain ⟨h1, h2, h3⟩ := sub_at L k i hi h
  unfold mV
  rw [cnt_succ, if_pos h, mS, h2, h3]
theorem mV_all {L : List Bxd} (k s : Nat) : mV L k s L.length = bval (sub L k) s := by
  unfold mV
  rw [bval_eq, sub_len]
theorem mV_bd {L : List Bxd} (hok : BxOk L) (k : Nat) {s : Nat} (hs : s ≤ 4) (i : Nat) (hi : i ≤ L.length) : 0 ≤ mV L k s i ∧ mV L k s i ≤ 4 * scB (sub L k) := by
  have hc : ∀ i j, i ≤ j → cnt k i ≤ cnt k j := by
    intro i j hij
    induction j with
    | zero => rw [Nat.le_zero.1 hij]; exact Nat.le_refl _
    | succ j ih =>
      rcases Nat.lt_or_ge i (j + 1) with h | h
      · have := ih (by omega)
        rw [cnt_succ]
        omega
      · rw [show i = j + 1 by omega]; exact Nat.le_refl _
  exact mS_bd (sub_ok k hok) hs _ (by rw [sub_len]; exact hc _ _ hi)
/-- The row of a set's number. -/
def rowK (L : List Bxd) (k : Nat) : List (Int × Int) := (List.range 5).map fun s => (cutT (bval (sub L k) s) (scB (sub L k)), cutB (bval (sub L k) s) (scB (sub L k)))
theorem rowK_len (L : List Bxd) (k : Nat) : (rowK L k).length = 5 := by simp [rowK]
theorem rowK_f (L : List Bxd) (k : Nat) : RowF (bval (sub L k)) (scB (sub L k)) (rowK L k) := ⟨rowK_len L k, fun v hv => by
  unfold pT pB rowK
  simp [List.getD, hv]⟩
theorem rowK_next {L : List Bxd} {k s : Nat} (hs : s < 5) : (rowK L k).take s ++ [(cutT (bval (sub L k) s) (scB (sub L k)), cutB (bval (sub L k) s) (scB (sub L k)))] = (rowK L k).take (s + 1) := by
  rw [List.take_succ_eq_append_getElem (by rw [rowK_len]; exact hs)]
  simp [rowK]
theorem rowK_tk {L : List Bxd} {k s : Nat} (hs : s ≤ 5) : ((rowK L k).take s).length = s := by rw [List.length_take, rowK_len]; omega
theorem bits_and : ∀ q : Nat, q < 16 → bits BinOp.and IntKind.i64 (q : Int) 1 = ((q % 2 : Nat) : Int) := by
  have h : ∀ q : Fin 16, bits BinOp.and IntKind.i64 (q.val : Int) 1 = ((q.val % 2 : Nat) : Int) := by decide
  intro q hq
  exact h ⟨q, hq⟩
theorem bit_yes {k i : Nat} (hk : k < 16) (h : bitB k i = true) : bits BinOp.and IntKind.i64 ((k / 2 ^ i : Nat) : Int) 1 = 1 := by
  have hq : k / 2 ^ i < 16 := Nat.lt_of_le_of_lt (Nat.div_le_self _ _) hk
  rw [bits_and _ hq]
  simp only [bitB, decide_eq_true_eq] at h
  rw [h]; rfl
theorem bit_no {k i : Nat} (hk : k < 16) (h : bitB k i = false) : bits BinOp.and IntKind.i64 ((k / 2 ^ i : Nat) : Int) 1 = 0 := by
  have hq : k / 2 ^ i < 16 := Nat.lt_of_le_of_lt (Nat.div_le_self _ _) hk
  rw [bits_and _ hq]
  simp only [bitB, decide_eq_false_iff_not] at h
  rw [show k / 2 ^ i % 2 = 0 by omega]; rfl
theorem shr_nat (k i : Nat) : (k : Int) / 2 ^ i = ((k / 2 ^ i : Nat) : Int) := by simp
theorem pow16 : ∀ i, i ≤ 4 → 1 ≤ 2 ^ i ∧ 2 ^ i ≤ 16
  | 0, _ => by decide
  | 1, _ => by decide
  | 2, _ => by decide
  | 3, _ => by decide
  | 4, _ => by decide
theorem shl_nat {i : Nat} (h : i ≤ 4) : IntKind.i64.wrap ((2 : Int) ^ i) = ((2 ^ i : Nat) : Int) := by
  have := pow16 i h
  have e : (2 : Int) ^ i = ((2 ^ i : Nat) : Int) := by simp
  rw [e]
  exact IntWalk.i64_in _ (by omega)
theorem shl64_nat {i : Nat} (h : i ≤ 4) : wrap64 ((2 : Int) ^ i) = ((2 ^ i : Nat) : Int) := by
  have := pow16 i h
  have e : (2 : Int) ^ i = ((2 ^ i : Nat) : Int) := by simp
  rw [e]
  exact IntWalk.wrap64_in _ ⟨by omega, by omega⟩
theorem lit_srcK (w : World) (p q : Int) : ∀ j u, (pcells [(p, q)])[j]? = some u → (w.alloc (.cells #[.int .i64 p, .int .i64 q] 26)).cell? ((⟨w.heap.size, 0, none⟩ : Addr).add j) = some u := by
  intro j u hu
  have h := (OwnP.lit w [(p, q)] (by simp)).src j u hu
  exact h
theorem pheadK_info : (Try.prog.info? 41).map (fun i => (i.zero, i.size, i.bytes)) = some (some (.slice none 0 0), 1, 24) := by kernel_rfl
set_option maxRecDepth 20000 in
set_option maxHeartbeats 4000000 in
theorem l7Any_c {L : List Bxd} (hok : BxOk L) (A : Option Addr) (c : Nat) (w : World) (h : RdBs w A L) :
    Calls Try.prog 87 #[.slice A L.length c] w fun e w' => ∃ AN cN, e = .returned (.slice AN (2 ^ L.length) cN) ∧ RdN w' AN (2 ^ L.length) (rowK L) ∧ Below w.heap.size w w' := by
  have hn := hok.1
  obtain ⟨N, hN⟩ : ∃ N, N = 2 ^ L.length := ⟨_, rfl⟩
  have hN16 := pow16 L.length hn
  have eN := shl64_nat hn
  rw [← hN] at hN16 eN ⊢
  have HN := Lib.hid hN
  clear hN
  have o0 := OwnV.lit 41 w [] (by simp)
  have HB0 : Below w.heap.size w (w.alloc (.cells #[] 41)) := (Below.refl _ _).alloc (Nat.le_refl _) _
  go_enter Try.func87, Try.ntmps87
  go_wp2_with fail
  go_loopw [3, 4] (fun o i wr => ∃ (k : Nat) (AN : Option Addr) (cN : Nat) (HN : List Value), k ≤ N ∧ i = .int .i64 (k : Int) ∧ o = .slice AN k cN ∧ OwnV 41 wr w.heap.size AN cN HN ∧ HeadsT LiesP wr (fun b => blk AN = some b) HN k (rowK L) ∧ Below w.heap.size w wr) (fun _ i _ => N - (intOf i).toNat)
  case atStart => exact ⟨0, _, _, [], by omega, rfl, rfl, o0, HeadsT.nil _ _ _, HB0⟩
  case round =>
    clear o0 HB0
    obtain ⟨v, rfl⟩ : ∃ v : World, v = wr := ⟨_, rfl⟩
    obtain ⟨k, AN, cN, H, hk, rfl, rfl, ho, hh, HB⟩ := hrel
    have HNL := Lib.hid hh.len
    by_cases hlt : k < N
    · have HO := Lib.hid ho
      have HH := Lib.hid hh
      clear ho hh
      have p0 := OwnP.lit v [] (by simp)
      have HB1 : Below v.heap.size v (v.alloc (.cells #[] 26)) := (Below.refl _ _).alloc (Nat.le_refl _) _
      have hk16 : k < 16 := by omega
      have hSS := scB_bd (sub_ok k hok)
      go_wp2_with fail
      go_loopw [5, 6] (fun r j wr => ∃ (s : Nat) (AR : Option Addr) (cR : Nat), s ≤ 5 ∧ j = .int .i64 (s : Int) ∧ r = .slice AR s cR ∧ OwnP wr v.heap.size AR cR ((rowK L k).take s) ∧ Below v.heap.size v wr) (fun _ j _ => 5 - (intOf j).toNat)
      case atStart => exact ⟨0, _, _, by omega, rfl, rfl, p0, HB1⟩
      case round =>
        clear p0 HB1
        obtain ⟨y, rfl⟩ : ∃ y : World, y = wr := ⟨_, rfl⟩
        obtain ⟨s, AR, cR, hs5, rfl, rfl, po, HY⟩ := hrel
        by_cases hls : s < 5
        · have PO := Lib.hid po
          clear po
          have hs4 : s ≤ 4 := by omega
          have bx := Bx.new y (.int .i64 (s : Int)) (.int .i64 1) 26
          have HB2 : Below y.heap.size y (y.alloc (.cells #[.int .i64 (s : Int), .int .i64 1] 26)) := (Below.refl _ _).alloc (Nat.le_refl _) _
          have hc0 : cutT (mV L k s 0) (scB (sub L k)) = (s : Int) ∧ cutB (mV L k s 0) (scB (sub L k)) = 1 := by
            rw [mV_0]
            have := cut_congr (a := (s : Int) * scB (sub L k)) (b := scB (sub L k)) (c := (s : Int)) (d := 1) (by omega) (by decide) (by rw [Int.mul_one])
            rw [this.1, this.2]
            exact cut_one _
          have BX0 : Hid (Bx (y.alloc (.cells #[.int .i64 (s : Int), .int .i64 1] 26)) y.heap.size (.int .i64 (cutT (mV L k s 0) (scB (sub L k)))) (.int .i64 (cutB (mV L k s 0) (scB (sub L k))))) := Lib.hid (by rw [hc0.1, hc0.2]; exact bx)
          clear bx hc0
          go_wp2_with fail
          go_loopw [8] (fun q wr => ∃ i : Nat, i ≤ L.length ∧ q = .int .i64 (i : Int) ∧ Bx wr y.heap.size (.int .i64 (cutT (mV L k s i) (scB (sub L k)))) (.int .i64 (cutB (mV L k s i) (scB (sub L k)))) ∧ Below y.heap.size y wr) (fun q _ => L.length - (intOf q).toNat)
          case atStart => exact ⟨0, by omega, rfl, BX0.out, HB2⟩
          case round =>
            clear BX0 HB2
            obtain ⟨z, rfl⟩ : ∃ z : World, z = wr := ⟨_, rfl⟩
            obtain ⟨i, hi, rfl, bx, HZ⟩ := hrel
            have HVZ := bUp HY HZ HY.size
            by_cases hli : i < L.length
            · have i0 : (0 : Int) ≤ (i : Int) := by omega
              have esr := shr_nat k i
              cases hbit : bitB k i
              · have eand := bit_no hk16 hbit
                have HM := Lib.hid (mV_no (L := L) s hbit)
                clear hbit
                generalize hqq : k / 2 ^ i = qq at *
                clear hqq
                go_wp2_with fail
                go_roundw
                case rel => exact ⟨i + 1, by omega, by go_num, by rw [HM.out]; exact bx, HZ⟩
                case measure => simp [intOf] <;> omega
              · have eand := bit_yes hk16 hbit
                have HM := Lib.hid (mV_yes (L := L) s hli hbit)
                have HSC := Lib.hid (sub_sc hli hbit)
                have hle := bit_le i k hbit
                have hp16 := pow16 i (by omega)
                have esl := shl_nat (i := i) (by omega)
                clear hbit
                obtain ⟨d, hd⟩ : ∃ d, d = k - 2 ^ i := ⟨_, rfl⟩
                rw [← hd] at HM HSC
                generalize hqq : k / 2 ^ i = qq at *
                generalize hpp : 2 ^ i = pp at *
                clear hqq
                have esb : IntKind.i64.wrap ((k : Int) - (pp : Int)) = (d : Int) := by rw [IntWalk.i64_in _ (by omega)]; omega
                have hdk : d < k := by omega
                have j0 : (0 : Int) ≤ (d : Int) := by omega
                have j1 : (d : Int) < (k : Int) := by omega
                clear hd hpp
                have hbx := hok.2 i hli
                obtain ⟨l1, l2, l3, l4, l5⟩ := lawB_yes hbx.1
                have hS' := scB_bd (sub_ok d hok)
                have hmv := mV_bd hok k hs4 i hi
                obtain ⟨gN, rfl, hgN, hgN2⟩ := HO.out.form (by rw [HNL.out]; omega)
                obtain ⟨uu, hu1, ar, cr, rfl, rr, hrd⟩ := HH.out.at_ d hdk
                have nz := (HVZ.cell (cell_lt (HO.out.cell hu1))).trans (HO.out.cell hu1)
                rw [rowK_len] at nz
                obtain ⟨ad, A1, c1, rfl, q1, q2, r1⟩ := (h.below (bUp HB HVZ HB.size)).at_ hli
                have q2' := cellOffB 1 (by omega) q2
                have gMO := gr_same (M := mV L k s i) (O := oS (bval (sub L d)) (bAt L i) (scB (sub L k)) s (bAt L i).w.length) (S := scB (sub L k)) (by omega)
                have hoe := oS_eq (bval (sub L d)) (bAt L i) (scB (sub L k)) s (bAt L i).w.length
                have hog := gS2_top (V := bval (sub L d)) (b := bAt L i) (S' := scB (sub L d)) hbx.1 (by omega) (fun s' hs' => (sub_ok d hok).bd hs') hs4 (Nat.le_refl _)
                rw [HSC.out] at hog
                have m1 := mul_bd (bAt L i).fee (scB (sub L k)) 20 390625 hbx.2.1 hbx.2.2 (by omega) (by omega)
                rw [Int.neg_mul] at hoe
                have bO := cutT_bd (a := oS (bval (sub L d)) (bAt L i) (scB (sub L k)) s (bAt L i).w.length) (b := scB (sub L k)) (by omega) (M := 7812500) (by omega) (by omega)
                have bO2 := cutB_bd (a := oS (bval (sub L d)) (bAt L i) (scB (sub L k)) s (bAt L i).w.length) (b := scB (sub L k)) (M := 390625) (by omega) (by omega)
                have bM := cutT_bd (a := mV L k s i) (b := scB (sub L k)) (by omega) (M := 7812500) (by omega) (by omega)
                have bM2 := cutB_bd (a := mV L k s i) (b := scB (sub L k)) (M := 390625) (by omega) (by omega)
                have CO := Lib.hid (fun (W : World) (hW : Below z.heap.size z W) => l7Open_c (V := bval (sub L d)) (b := bAt L i) (S' := scB (sub L d)) (ps := rowK L d) (s := s) hbx.1 hbx.2.1 hbx.2.2 hS'.1 hS'.2 (by rw [HSC.out]; exact hSS.2) (fun s' hs' => (sub_ok d hok).bd hs') hs4 (rowK_f L d) A1 c1 ar cr W (r1.below hW (Nat.le_refl _)) ((rr.below HVZ (Nat.le_refl _)).below hW (Nat.le_refl _)))
                rw [HSC.out] at CO
                have CG := Lib.hid (fun (W : World) => l7GreaterG_c (cutT (mV L k s i) (scB (sub L k))) (cutB (mV L k s i) (scB (sub L k))) (cutT (oS (bval (sub L d)) (bAt L i) (scB (sub L k)) s (bAt L i).w.length) (scB (sub L k))) (cutB (oS (bval (sub L d)) (bAt L i) (scB (sub L k)) s (bAt L i).w.length) (scB (sub L k))) (by omega) (by omega) (by omega) (by omega) (by omega) (by omega) (by omega) (by omega) W)
                rw [gMO.1, gMO.2, ← HM.out] at CG
                clear gMO hoe hog m1 bO bO2 bM bM2 hmv hbx l1 l2 l3 l4 l5 hu1 hrd q2 rr
                generalize cutT (mV L k s i) (scB (sub L k)) = t0 at *
                generalize cutB (mV L k s i) (scB (sub L k)) = t1 at *
                obtain ⟨f0, f1, _, _, hf0⟩ := id bx
                rename (s : Int) < 5 => hsI
                clear eN hls hs4 hsI
                go_upto_region 14 with fail
                have hd1 : Below z.heap.size z z.drew := Below.drew (Below.refl _ _)
                have SK1 : Hid (∀ w', Below z.heap.size z w' → w'.cell? ⟨y.heap.size, 0, none⟩ = some (.int .i64 t0) ∧ w'.cell? ⟨y.heap.size, 1, none⟩ = some (.int .i64 t1) ∧ w'.cell? (ad.add (i * 2)) = some (.slice A1 (bAt L i).w.length c1) ∧ w'.cell? ⟨(ad.add (i * 2)).block, (ad.add (i * 2)).off + 1, none⟩ = some (.int .i64 (bAt L i).fee) ∧ w'.cell? ⟨gN, d, none⟩ = some (.slice ar 5 cr)) := Lib.hid fun w' HV => ⟨(HV.cell (p := ⟨y.heap.size, 0, none⟩) hf0).trans f0, (HV.cell (p := ⟨y.heap.size, 1, none⟩) hf0).trans f1, (HV.cell (cell_lt q1)).trans q1, (HV.cell (cell_lt q2')).trans q2', (HV.cell (cell_lt nz)).trans nz⟩
                clear f0 f1 q1 q2' nz
                have hS1_0 := SK1.out _ hd1
                refine tamed_region (S := fun w' => w'.cell? ⟨y.heap.size, 0, none⟩ = some (.int .i64 t0) ∧ w'.cell? ⟨y.heap.size, 1, none⟩ = some (.int .i64 t1) ∧ w'.cell? (ad.add (i * 2)) = some (.slice A1 (bAt L i).w.length c1) ∧ w'.cell? ⟨(ad.add (i * 2)).block, (ad.add (i * 2)).off + 1, none⟩ = some (.int .i64 (bAt L i).fee) ∧ w'.cell? ⟨gN, d, none⟩ = some (.slice ar 5 cr)) (fun k => k == 15) (by kernel_rfl) ?_
                refine tameT (k := 0) ?_ rfl (by kernel_rfl) (by kernel_rfl) (by kernel_rfl) (by kernel_rfl) (by kernel_rfl) (fun _ _ _ h => h) (by kernel_rfl) hS1_0 (fun v hv => ?_) ?_
                rotate_left
                · (obtain ⟨k1, k2, k3, k4, k5⟩ := hv; go_simp; all_goals rfl)
                simp only [Act.put, List.setIfInBounds_toArray]
                refine tame0 (k := 1) ?_ rfl (by kernel_rfl) (by kernel_rfl) (by kernel_rfl) (fun _ _ _ h => h) (by kernel_rfl) (fun v => ?_) ?_
                rotate_left
                · (go_simp; all_goals rfl)
                simp only [Act.put]
                refine tame0 (k := 2) ?_ rfl (by kernel_rfl) (by kernel_rfl) (by kernel_rfl) (fun _ _ _ h => h) (by kernel_rfl) (fun v => ?_) ?_
                rotate_left
                · (go_simp; all_goals rfl)
                simp only [Act.put]
                refine tame0 (k := 3) ?_ rfl (by kernel_rfl) (by kernel_rfl) (by kernel_rfl) (fun _ _ _ h => h) (by kernel_rfl) (fun v => ?_) ?_
                rotate_left
                · (go_simp; all_goals rfl)
                simp only [Act.put]
                refine tameT (k := 4) ?_ rfl (by kernel_rfl) (by kernel_rfl) (by kernel_rfl) (by kernel_rfl) (by kernel_rfl) (fun _ _ _ h => h) (by kernel_rfl) hS1_0 (fun v hv => ?_) ?_
                rotate_left
                · (obtain ⟨k1, k2, k3, k4, k5⟩ := hv; go_simp; all_goals rfl)
                simp only [Act.put]
                refine tame0 (k := 5) ?_ rfl (by kernel_rfl) (by kernel_rfl) (by kernel_rfl) (fun _ _ _ h => h) (by kernel_rfl) (fun v => ?_) ?_
                rotate_left
                · (go_simp; all_goals rfl)
                simp only [Act.put]
                refine tame0 (k := 6) ?_ rfl (by kernel_rfl) (by kernel_rfl) (by kernel_rfl) (fun _ _ _ h => h) (by kernel_rfl) (fun v => ?_) ?_
                rotate_left
                · (go_simp; all_goals rfl)
                simp only [Act.put]
                refine tame0 (k := 7) ?_ rfl (by kernel_rfl) (by kernel_rfl) (by kernel_rfl) (fun _ _ _ h => h) (by kernel_rfl) (fun v => ?_) ?_
                rotate_left
                · (go_simp; all_goals rfl)
                simp only [Act.put]
                refine tame0 (k := 8) ?_ rfl (by kernel_rfl) (by kernel_rfl) (by kernel_rfl) (fun _ _ _ h => h) (by kernel_rfl) (fun v => ?_) ?_
                rotate_left
                · (go_simp; all_goals rfl)
                simp only [Act.put]
                refine tame0 (k := 9) ?_ rfl (by kernel_rfl) (by kernel_rfl) (by kernel_rfl) (fun _ _ _ h => h) (by kernel_rfl) (fun v => ?_) ?_
                rotate_left
                · (go_simp; all_goals rfl)
                simp only [Act.put]
                refine tame0 (k := 10) ?_ rfl (by kernel_rfl) (by kernel_rfl) (by kernel_rfl) (fun _ _ _ h => h) (by kernel_rfl) (fun v => ?_) ?_
                rotate_left
                · (go_simp; all_goals rfl)
                simp only [Act.put]
                refine tame0 (k := 11) ?_ rfl (by kernel_rfl) (by kernel_rfl) (by kernel_rfl) (fun _ _ _ h => h) (by kernel_rfl) (fun v => ?_) ?_
                rotate_left
                · (go_simp; all_goals rfl)
                simp only [Act.put]
                refine tameT (k := 12) ?_ rfl (by kernel_rfl) (by kernel_rfl) (by kernel_rfl) (by kernel_rfl) (by kernel_rfl) (fun _ _ _ h => h) (by kernel_rfl) hS1_0 (fun v hv => ?_) ?_
                rotate_left
                · (obtain ⟨k1, k2, k3, k4, k5⟩ := hv; go_simp; all_goals rfl)
                simp only [Act.put]
                have hS1_0v := Lib.hid hS1_0
                clear hS1_0
                refine tame_one (k := 13) (by kernel_rfl) rfl (by kernel_rfl) ?_
                go_simp
                refine (CO.out _ hd1).mono ?_
                rintro e v3 ⟨rfl, b13⟩
                have hd1_1 := bUp hd1 b13 (Nat.le_refl _)
                have hS1_1 := Lib.hid (SK1.out _ hd1_1)
                refine ⟨by first | exact hS1_1 | exact Hid.out hS1_1, ?_⟩
                refine tame_one (k := 14) (by kernel_rfl) rfl (by kernel_rfl) ?_
                go_simp
                refine (CG.out _).mono ?_
                rintro e v4 ⟨rfl, b14⟩
                have hd1_2 := bUp hd1_1 b14 hd1_1.size
                have hS1_2 := Lib.hid (SK1.out _ hd1_2)
                refine ⟨by first | exact hS1_2 | exact Hid.out hS1_2, ?_⟩
                have b54 := bx.below hd1_2
                have b55 := b54.set2 (.int .i64 (cutT (mV L k s (i + 1)) (scB (sub L k)))) (.int .i64 (cutB (mV L k s (i + 1)) (scB (sub L k))))
                have hb5 := ((bUp HZ hd1_2 HZ.size).setCell (p := ⟨y.heap.size, 0, none⟩) (Nat.le_refl _) (.int .i64 (cutT (mV L k s (i + 1)) (scB (sub L k))))).setCell (p := ⟨y.heap.size, 1, none⟩) (Nat.le_refl _) (.int .i64 (cutB (mV L k s (i + 1)) (scB (sub L k))))
                obtain ⟨h70, h71, hy0, hy1, hh7⟩ := b54
                refine tame_one (k := 15) (by kernel_rfl) rfl (by kernel_rfl) ?_
                go_simp
                try (refine ⟨fun h => absurd h (by decide), ?_⟩)
                refine tame_end (by kernel_rfl) ?_
                clear hf0
                go_wp2
                go_roundw
                case rel => exact ⟨i + 1, by omega, by go_num, b55, hb5⟩
                case measure => simp [intOf] <;> omega
            · obtain rfl : i = L.length := by omega
              rw [mV_all] at bx
              have HNX := Lib.hid (rowK_next (L := L) (k := k) hls)
              have HTK := Lib.hid (rowK_tk (L := L) (k := k) (Nat.le_of_lt hls))
              generalize cutT (bval (sub L k) s) (scB (sub L k)) = t0 at *
              generalize cutB (bval (sub L k) s) (scB (sub L k)) = t1 at *
              have SRC := Lib.hid (lit_srcK z t0 t1)
              have bl : Below z.heap.size z (z.alloc (.cells #[.int .i64 t0, .int .i64 t1] 26)) := (Below.refl _ _).alloc (Nat.le_refl _) _
              have P1 := Lib.hid (PO.out.below (bUp HZ bl HZ.size))
              have hyv := HY.size
              have hzy := HZ.size
              obtain ⟨f0, f1, _, _, hf0⟩ := id bx
              clear eN hls
              go_wp2_with (at_builtin; refine wp_append_pairs _ rfl _ _ rfl v.heap.size AR s cR ((rowK L k).take s) rfl HTK.out.symm P1.out ⟨z.heap.size, 0, none⟩ 1 1 [(t0, t1)] rfl rfl SRC.out (by rw [HTK.out]; simp; omega) (by simp; omega) (by simp) ?_; intro g2 c2 w10 o10 hg10 hb10)
              rw [HNX.out] at o10
              have HN6 := (bUp HVZ bl HVZ.size).grown hg10 (by simp; omega) (fun b hb => P1.out.ge b hb)
              clear hg10 hb10
              go_roundw
              case rel => exact ⟨s + 1, _, c2, by omega, by go_num, rfl, o10, HN6⟩
              case measure => simp [intOf] <;> omega
        · obtain rfl : s = 5 := by omega
          have HR5 : Hid ((rowK L k).take 5 = rowK L k) := Lib.hid (List.take_of_length_le (by rw [rowK_len]; omega))
          rw [HR5.out] at po
          have hrl := Lib.hid (rowK_len L k)
          obtain ⟨gr, rfl, hg1, hg2⟩ := po.form (by rw [hrl.out]; omega)
          have bl : Below y.heap.size y (y.alloc (.cells #[.slice (some ⟨gr, 0, none⟩) 5 cR] 41)) := (Below.refl _ _).alloc (Nat.le_refl _) _
          have HB3 := bUp HY bl HY.size
          have ly : LiesP (y.alloc (.cells #[.slice (some ⟨gr, 0, none⟩) 5 cR] 41)) (fun b => blk AN = some b) (.slice (some ⟨gr, 0, none⟩) 5 cR) (rowK L k) := by
            rw [show (5 : Nat) = (rowK L k).length from hrl.out.symm]
            refine (po.alloc _).lies fun g hg hd => ?_
            have h1 := po.ge g hg
            have h2 := (HO.out.ltk g hd).2
            omega
          have LY := Lib.hid ly
          have O3 := Lib.hid (HO.out.below HB3)
          have H3 := Lib.hid (HH.out.keep staysP (Kept.of_below HB3))
          have hsz3 := HB3.size
          have hbs := HB.size
          clear ly po
          go_wp2_with (at_builtin; refine wp_append_oneV 86 41 Try.underlying86 pheadK_info _ rfl _ _ rfl w.heap.size AN k cN H rfl HNL.out.symm O3.out y.heap.size 1 (.slice (some ⟨gr, 0, none⟩) 5 cR) rfl (by simp) rfl (by rw [HNL.out]; omega) (by omega) ?_; intro g13 c13 v13 o13 G13 t13)
          have tt : blk (some (⟨g13, 0, none⟩ : Addr)) = blk AN ∨ ∃ r, blk (some (⟨g13, 0, none⟩ : Addr)) = some r ∧ (y.alloc (.cells #[.slice (some ⟨gr, 0, none⟩) 5 cR] 41)).heap.size ≤ r := by
            rcases t13 with t | t
            · exact .inl t
            · exact .inr ⟨_, rfl, by show _ ≤ g13; omega⟩
          have h5 := (H3.out.push staysP G13 (fun b hb => hb) tt (fun b h => .inr h)).snoc (push_keep staysP LY.out G13 (fun b hb => hb) tt (fun b h => .inr h))
          have HB5 := (bUp HB HB3 HB.size).grown G13 (by omega) (fun b hb => O3.out.ge b hb)
          clear tt
          go_roundw
          case rel => exact ⟨k + 1, _, c13, _, by omega, by go_num, rfl, o13, h5, HB5⟩
          case measure => simp [intOf] <;> omega
    · obtain rfl : k = N := by omega
      go_wp2_with fail
      go_ret
      exact ⟨AN, cN, rfl, heads_n ho hh, HB⟩
end Go.Proofs.Ytjnllbmknblecaa
