/- GamblerTable and GamblerMean: the reference's walks, and the program's GamblerMean. -/
import Derived.Test.YtjnllbmknblecaaGaI
import Derived.Test.YtjnllbmknblecaaGaS
namespace Go.Proofs.Ytjnllbmknblecaa
open Go.RowKit

set_option maxRecDepth 20000 in
set_option maxHeartbeats 1000000 in
theorem l7Table_c (A : Option Addr) (xss : List (List Int)) (c : Nat) (w : World) (ha : RdSS w A xss) (h1 : lawsB xss = true) :
    Calls Try.prog 79 #[.slice A xss.length c] w fun e w' => ∃ g c2, e = .returned (.slice (some ⟨g, 0, none⟩) (xss.length + 1) c2) ∧ OwnP w' w.heap.size (some ⟨g, 0, none⟩) c2 (gTab xss xss.length).reverse ∧ Below w.heap.size w w' := by
  have HL := Lib.hid h1
  have hn := (lawsB_yes h1).1
  have O0 := OwnP.lit w [(0, 1)] (by decide)
  have HB0 : Below w.heap.size w (w.alloc (.cells #[.int .i64 0, .int .i64 1] 26)) := (Below.refl _ _).alloc (Nat.le_refl _) _
  clear h1
  go_enter Try.func79, Try.ntmps79
  go_wp2
  go_loopw [3, 4] (fun o i wr => ∃ k g c2 : Nat, k ≤ xss.length ∧ i = .int .i64 ((k : Int) - 1) ∧ o = .slice (some ⟨g, 0, none⟩) (xss.length - k + 1) c2 ∧ OwnP wr w.heap.size (some ⟨g, 0, none⟩) c2 (gTab xss (xss.length - k)).reverse ∧ Below w.heap.size w wr) (fun _ i _ => (intOf i + 1).toNat)
  case atStart => exact ⟨xss.length, _, _, Nat.le_refl _, rfl, by rw [Nat.sub_self], by rw [Nat.sub_self, gTab_zero]; exact O0, HB0⟩
  case round =>
    obtain ⟨k, g, c2, hk, rfl, rfl, ho, hb⟩ := hrel
    clear O0 HB0
    rcases k with _ | m
    · have e0 : ((0 : Nat) : Int) - 1 = -1 := rfl
      rw [e0]
      rw [Nat.sub_zero] at ho ⊢
      clear e0
      go_wp2
      go_ret
      exact ⟨g, c2, rfl, ho, hb⟩
    · have e0 : ((m + 1 : Nat) : Int) - 1 = (m : Int) := by omega
      rw [e0]
      clear e0
      have bB := thB_bd HL.out (xss.length - (m + 1)) (by omega)
      have bT := gT_bd HL.out (xss.length - (m + 1)) (by omega)
      obtain ⟨a, A', c', rfl, hca, hra⟩ := (ha.below hb (Nat.le_refl _)) m (by omega)
      have hll := Lib.hid ((lawsB_yes HL.out).2 m (by omega))
      have HS1 := Lib.hid (gT_succ xss m (by omega))
      have HS2 := Lib.hid (thB_succ xss m (by omega))
      have he : xss.length - (m + 1) + 1 = xss.length - m := by omega
      have HS3 := gTab_rev xss (xss.length - (m + 1))
      rw [he] at HS3
      have HS3 := Lib.hid HS3
      have HF : Hid (gF xss (xss.length - m) = (cutT (gS (rowAt xss m) (gT xss (xss.length - (m + 1))) (thB xss (xss.length - (m + 1))) (rowAt xss m).length) (thB xss (xss.length - (m + 1)) * sm (rowAt xss m)), cutB (gS (rowAt xss m) (gT xss (xss.length - (m + 1))) (thB xss (xss.length - (m + 1))) (rowAt xss m).length) (thB xss (xss.length - (m + 1)) * sm (rowAt xss m)))) := Lib.hid (by
        unfold gF
        rw [HS1.out, HS2.out])
      have HE := Lib.hid he
      have hfst := gTab_first xss (xss.length - (m + 1))
      have fc := ho.cells (k := 0) (by rw [List.length_reverse, gTab_length]; omega)
      rw [hfst.1, hfst.2] at fc
      have fc : wr.cell? ⟨g, 0, none⟩ = some (.int .i64 (cutT (gT xss (xss.length - (m + 1))) (thB xss (xss.length - (m + 1))))) ∧ wr.cell? ⟨g, 1, none⟩ = some (.int .i64 (cutB (gT xss (xss.length - (m + 1))) (thB xss (xss.length - (m + 1))))) := fc
      have hl6 : xss.length - (m + 1) + 1 ≤ 5 := by omega
      have hlt := Lib.hid (show ((gTab xss (xss.length - (m + 1))).reverse).length = xss.length - (m + 1) + 1 by rw [List.length_reverse, gTab_length])
      generalize gT xss (xss.length - (m + 1)) = T at *
      generalize thB xss (xss.length - (m + 1)) = B at *
      clear hfst he
      have hg := (OwnP.ltk ho) g rfl
      have i1 : (0 : Int) ≤ (m : Int) := by omega
      have i2 : (m : Int) < (xss.length : Int) := by omega
      have i3 : (0 : Int) < ((xss.length - (m + 1) + 1 : Nat) : Int) := by omega
      have C7 := Lib.hid (fun (w : World) (h : Rd w A' (ints (rowAt xss m))) => l7Over_c A' (rowAt xss m) c' T B w h hll.out bT.1 bT.2 bB.1 bB.2)
      have SK : Hid (∀ w', Below wr.heap.size wr w' → w'.cell? (a.add m) = some (.slice A' (rowAt xss m).length c') ∧ w'.cell? ⟨g, 0, none⟩ = some (.int .i64 (cutT T B)) ∧ w'.cell? ⟨g, 1, none⟩ = some (.int .i64 (cutB T B))) :=
        Lib.hid fun w' HV => ⟨(HV.cell (cell_lt hca)).trans hca, (HV.cell (p := ⟨g, 0, none⟩) hg).trans fc.1, (HV.cell (p := ⟨g, 1, none⟩) hg).trans fc.2⟩
      clear fc hca bB bT
      go_upto_region 5 with fail
      refine tamed_region (S := fun w' => w'.cell? (a.add m) = some (.slice A' (rowAt xss m).length c') ∧ w'.cell? ⟨g, 0, none⟩ = some (.int .i64 (cutT T B)) ∧ w'.cell? ⟨g, 1, none⟩ = some (.int .i64 (cutB T B))) (fun _ => false) (by kernel_rfl) ?_
      have hS0 := SK.out wr.drew (Below.drew (Below.refl _ _))
      refine tame0 (k := 0) ?_ rfl (by kernel_rfl) (by kernel_rfl) (by kernel_rfl) (fun _ _ _ h => h) (by rfl) (fun v => ?_) ?_
      rotate_left
      · (go_simp; all_goals rfl)
      simp only [Act.put, List.setIfInBounds_toArray]
      refine tame0 (k := 1) ?_ rfl (by kernel_rfl) (by kernel_rfl) (by kernel_rfl) (fun _ _ _ h => h) (by rfl) (fun v => ?_) ?_
      rotate_left
      · (go_simp; all_goals rfl)
      simp only [Act.put]
      refine tame0 (k := 2) ?_ rfl (by kernel_rfl) (by kernel_rfl) (by kernel_rfl) (fun _ _ _ h => h) (by rfl) (fun v => ?_) ?_
      rotate_left
      · (go_simp; all_goals rfl)
      simp only [Act.put]
      refine tame0 (k := 4) ?_ rfl (by kernel_rfl) (by kernel_rfl) (by kernel_rfl) (fun _ _ _ h => h) (by rfl) (fun v => ?_) ?_
      rotate_left
      · (go_simp; all_goals rfl)
      simp only [Act.put]
      refine tame0 (k := 5) ?_ rfl (by kernel_rfl) (by kernel_rfl) (by kernel_rfl) (fun _ _ _ h => h) (by rfl) (fun v => ?_) ?_
      rotate_left
      · (go_simp; all_goals rfl)
      simp only [Act.put]
      refine tame (k := 3) ?_ rfl (by kernel_rfl) (by kernel_rfl) (by kernel_rfl) (by kernel_rfl) (fun _ _ _ h => h) (by rfl) hS0 (fun v hv => ?_) ?_
      rotate_left
      · (obtain ⟨g0, g1, g2⟩ := hv; go_simp; all_goals rfl)
      simp only [Act.put]
      refine tame (k := 6) ?_ rfl (by kernel_rfl) (by kernel_rfl) (by kernel_rfl) (by kernel_rfl) (fun _ _ _ h => h) (by rfl) hS0 (fun v hv => ?_) ?_
      rotate_left
      · (obtain ⟨g0, g1, g2⟩ := hv; go_simp; all_goals rfl)
      simp only [Act.put]
      refine tame0 (k := 9) ?_ rfl (by kernel_rfl) (by kernel_rfl) (by kernel_rfl) (fun _ _ _ h => h) (by rfl) (fun v => ?_) ?_
      rotate_left
      · (go_simp; all_goals rfl)
      simp only [Act.put]
      clear hS0
      refine tame_one (k := 7) (by kernel_rfl) rfl (by rfl) ?_
      go_simp
      refine (C7.out _ hra.drew).mono ?_
      rintro e w2 ⟨rfl, hb2⟩
      have hb92 := bUp (Below.drew (Below.refl wr.heap.size wr)) hb2 (Nat.le_refl _)
      refine ⟨SK.out _ hb92, ?_⟩
      refine tame_one (k := 8) (by kernel_rfl) rfl (by rfl) ?_
      go_simp
      have hv8 := hb92.alloc hb92.size (.cells #[.int .i64 (cutT (gS (rowAt xss m) T B (rowAt xss m).length) (B * sm (rowAt xss m))), .int .i64 (cutB (gS (rowAt xss m) T B (rowAt xss m).length) (B * sm (rowAt xss m)))] 26)
      refine ⟨SK.out _ hv8, ?_⟩
      refine tame_one (k := 10) (by kernel_rfl) rfl (by rfl) ?_
      have hb2w := bUp hb.drew hb2 hb.size
      have O1 := (OwnP.lit w2 [(cutT (gS (rowAt xss m) T B (rowAt xss m).length) (B * sm (rowAt xss m)), cutB (gS (rowAt xss m) T B (rowAt xss m).length) (B * sm (rowAt xss m)))] (by simp)).mono hb2w.size
      have hsrc := ((ho.drew.below hb2).alloc (.cells #[.int .i64 (cutT (gS (rowAt xss m) T B (rowAt xss m).length) (B * sm (rowAt xss m))), .int .i64 (cutB (gS (rowAt xss m) T B (rowAt xss m).length) (B * sm (rowAt xss m)))] 26)).src
      have hbs : w.heap.size ≤ (w2.alloc (.cells #[.int .i64 (cutT (gS (rowAt xss m) T B (rowAt xss m).length) (B * sm (rowAt xss m))), .int .i64 (cutB (gS (rowAt xss m) T B (rowAt xss m).length) (B * sm (rowAt xss m)))] 26)).heap.size := by have := hb2w.size; simp; omega
      refine op_append_pairs _ (.tmp 22) (.tmp 23) rfl w.heap.size (some ⟨w2.heap.size, 0, none⟩) 1 1 _ rfl rfl O1 ⟨g, 0, none⟩ _ c2 (gTab xss (xss.length - (m + 1))).reverse rfl hlt.out.symm hsrc (by rw [hlt.out]; (show 1 + _ ≤ 16777216); omega) hbs (by rw [hlt.out]; omega) ?_
      intro g3 c3 w5 ho5 hg5 hx5
      have hv9 := hv8.grown hg5 hv8.size (fun k hk => by cases hk; exact hb92.size)
      have hb5 := (hb2w.alloc hb2w.size (.cells #[.int .i64 (cutT (gS (rowAt xss m) T B (rowAt xss m).length) (B * sm (rowAt xss m))), .int .i64 (cutB (gS (rowAt xss m) T B (rowAt xss m).length) (B * sm (rowAt xss m)))] 26)).grown hg5 (by simp; have := hb2w.size; omega) (fun k hk => by cases hk; exact hb2w.size)
      refine ⟨fun _ => SK.out _ hv9, ?_⟩
      refine tame_one (k := 11) (by kernel_rfl) rfl (by rfl) ?_
      go_simp
      refine ⟨SK.out _ hv9, ?_⟩
      refine tame_end (by kernel_rfl) ?_
      rw [← HF.out, ← HS3.out] at ho5
      have hl5 : 1 + (xss.length - (m + 1) + 1) = xss.length - m + 1 := by omega
      have HL5 := Lib.hid hl5
      clear hl5 hx5
      go_wp2
      go_roundw
      case rel => exact ⟨m, g3, c3, by omega, rfl, by rw [HL5.out], ho5, hb5⟩
      case measure => simp [intOf] <;> omega
set_option maxRecDepth 20000 in
theorem l7Told_c (g c2 B : Nat) (ps : List (Int × Int)) (w : World) (ho : OwnP w B (some ⟨g, 0, none⟩) c2 ps) (hn : ps.length ≤ 16777216)
    (hf : ∀ k, k < ps.length → -4000000000000000000 ≤ pT ps k ∧ pT ps k ≤ 4000000000000000000 ∧ fracB (pT ps k) (pB ps k) = true) :
    Calls Try.prog 78 #[.slice (some ⟨g, 0, none⟩) ps.length c2] w (Quietly w (.tuple #[.slice (some ⟨g, 0, none⟩) ps.length c2, .bool true])) := by
  have HF := Lib.hid hf
  clear hf
  go_enter Try.func78, Try.ntmps78
  go_wp2
  go_loopw [4] (fun i wr => ∃ k : Nat, k ≤ ps.length ∧ i = .int .i64 k ∧ Below w.heap.size w wr) (fun i _ => ps.length - (intOf i).toNat)
  case atStart => exact ⟨0, by omega, rfl, Below.refl _ _⟩
  case round =>
    obtain ⟨k, hk, rfl, hB⟩ := hrel
    by_cases hlt : k < ps.length
    · obtain ⟨f0, f1⟩ := (ho.below hB).cells hlt
      have hx := HF.out k hlt
      have C := l2Frac_c (pT ps k) (pB ps k) hx.1 hx.2.1
      rw [hx.2.2] at C
      have C := Lib.hid C
      clear hx
      go_wp2_with fail
      refine (C.out _).mono ?_
      rintro e w2 ⟨rfl, hb2⟩
      clear f0 f1
      have HB2 := bUp hB hb2 hB.size
      go_wp2
      go_roundw
      case rel => exact ⟨k + 1, by omega, by go_num, HB2⟩
      case measure => simp [intOf] <;> omega
    · go_wp2
      go_ret2
      exact ⟨rfl, hB⟩
theorem gtab_frac {xss : List (List Int)} (h : lawsB xss = true) : ∀ k, k < (gTab xss xss.length).reverse.length → -4000000000000000000 ≤ pT (gTab xss xss.length).reverse k ∧ pT (gTab xss xss.length).reverse k ≤ 4000000000000000000 ∧
    fracB (pT (gTab xss xss.length).reverse k) (pB (gTab xss xss.length).reverse k) = true := by
  intro k hk
  rw [List.length_reverse, gTab_length] at hk
  have h1 := gTab_rev_at xss xss.length k (by omega)
  have h2 := gF_bd h (xss.length - k) (by omega)
  have h3 := cutT_bd (a := gT xss (xss.length - k)) (b := thB xss (xss.length - k)) (by omega) (M := 1562500) (by omega) (by omega)
  rw [h1.1, h1.2]
  unfold gF
  exact ⟨by omega, by omega, h2.2.2.2.2⟩
theorem specGt_c (A : Option Addr) (xss : List (List Int)) (c : Nat) (w : World) (ha : RdSS w A xss) (hs : SzSS xss) :
    Calls Try.prog 34 #[.slice A xss.length c] w (GivesP w (gtV xss) (lawsB xss)) := by
  cases h : lawsB xss with
  | false =>
    rw [gtV_no h]
    go_enter Try.func34, Try.ntmps34
    go_wp2_with (go_at_call 72; refine (l7Laws_is _ _ _ _ (by assumption) _ ha hs).mono ?_; rintro e w' ⟨rfl, rfl⟩)
    go_ret2
    exact ⟨_, _, rfl, OwnP.lit w [] (by simp), (Below.refl _ _).alloc (Nat.le_refl _) _⟩
  | true =>
    rw [gtV_yes h]
    have HH := Lib.hid h
    have hn := (lawsB_yes h).1
    have HL := Lib.hid (show (gTab xss xss.length).reverse.length = xss.length + 1 by rw [List.length_reverse, gTab_length])
    go_enter Try.func34, Try.ntmps34
    go_wp2_with fail
    refine (l7Laws_is _ _ _ _ h _ ha hs).mono ?_
    rintro e w' ⟨rfl, rfl⟩
    clear h
    go_wp2_with fail
    refine (l7Table_c _ _ _ _ ha HH.out).mono ?_
    rintro e w2 ⟨g, c2, rfl, ho, hb⟩
    have C := l7Told_c g c2 w.heap.size (gTab xss xss.length).reverse w2 ho (by rw [HL.out]; omega) (gtab_frac HH.out)
    rw [HL.out] at C
    have C := Lib.hid C
    go_wp2_with fail
    refine C.out.mono ?_
    rintro e w3 ⟨rfl, hb3⟩
    have HB := bUp hb hb3 hb.size
    clear C
    go_wp2
    go_ret2
    exact ⟨_, _, by rw [HL.out]; rfl, ho.below hb3, HB⟩
def gmT (xss : List (List Int)) : Int := if lawsB xss then (gF xss xss.length).1 else 0
def gmB (xss : List (List Int)) : Int := if lawsB xss then (gF xss xss.length).2 else 0
theorem gm_no {xss : List (List Int)} (h : lawsB xss = false) : gmT xss = 0 ∧ gmB xss = 0 := by simp [gmT, gmB, h]
theorem gm_yes {xss : List (List Int)} (h : lawsB xss = true) : gmT xss = (gF xss xss.length).1 ∧ gmB xss = (gF xss xss.length).2 := by simp [gmT, gmB, h]
theorem implGm_c (A : Option Addr) (xss : List (List Int)) (c : Nat) (w : World) (ha : RdSS w A xss) (hs : SzSS xss) :
    Calls Try.prog 40 #[.slice A xss.length c] w (Quietly w (.tuple #[.agg #[.int .i64 (gmT xss), .int .i64 (gmB xss)], .bool (lawsB xss)])) := by
  have ha1 := ha.alloc (.cells #[.int .i64 0, .int .i64 0] 26)
  have HB0 : Below w.heap.size w (w.alloc (.cells #[.int .i64 0, .int .i64 0] 26)) := (Below.refl _ _).alloc (Nat.le_refl _) _
  have B0 := Bx.new w (.int .i64 0) (.int .i64 0) 26
  cases h : lawsB xss with
  | false =>
    have HN := Lib.hid (gtV_no h)
    rw [(gm_no h).1, (gm_no h).2]
    have C := implGt_c A xss c _ ha1 hs
    rw [h, HN.out] at C
    have C := Lib.hid C
    clear h
    go_enter Try.func40, Try.ntmps40
    go_wp2_with fail
    refine C.out.mono ?_
    rintro e w2 ⟨A2, c2, rfl, ho, hb⟩
    clear C
    have HB := bUp HB0 hb HB0.size
    obtain ⟨f4, f5, y4, y5, hf4⟩ := B0.below hb
    go_wp2
    exact bodyPost_ret (v := .tuple #[.agg #[.int .i64 0, .int .i64 0], .bool false]) (by simp [results, Try.results40, go_sem, f4, f5]) rfl ⟨rfl, by with_reducible repeat (first | exact HB | refine Below.setCell ?_ (by simp <;> omega) _)⟩
  | true =>
    have HN := Lib.hid (gtV_yes h)
    rw [(gm_yes h).1, (gm_yes h).2]
    have C := implGt_c A xss c _ ha1 hs
    rw [h, HN.out] at C
    have C := Lib.hid C
    have hl : (gTab xss xss.length).reverse.length = xss.length + 1 := by rw [List.length_reverse, gTab_length]
    have HL := Lib.hid hl
    have hfst := gTab_first xss xss.length
    clear h
    go_enter Try.func40, Try.ntmps40
    go_wp2_with fail
    refine C.out.mono ?_
    rintro e w2 ⟨A2, c2, rfl, ho, hb⟩
    clear C
    have HB := bUp HB0 hb HB0.size
    obtain ⟨g, rfl, _, hg⟩ := ho.form (by omega)
    have fc := ho.cells (k := 0) (by omega)
    rw [hfst.1, hfst.2] at fc
    have fc : w2.cell? ⟨g, 0, none⟩ = some (.int .i64 (gF xss xss.length).1) ∧ w2.cell? ⟨g, 1, none⟩ = some (.int .i64 (gF xss xss.length).2) := fc
    obtain ⟨f0, f1⟩ := fc
    obtain ⟨f4, f5, y4, y5, hf4⟩ := B0.below hb
    have i1 : (0 : Int) < ((gTab xss xss.length).reverse.length : Int) := by omega
    generalize (gTab xss xss.length).reverse = L at *
    clear hl hfst
    go_wp2
    exact bodyPost_ret (v := .tuple #[.agg #[.int .i64 (gF xss xss.length).1, .int .i64 (gF xss xss.length).2], .bool true]) (by simp [results, Try.results40, go_sem, f4, f5]) rfl ⟨rfl, by with_reducible repeat (first | exact HB | refine Below.setCell ?_ (by simp <;> omega) _)⟩
theorem specGm_c (A : Option Addr) (xss : List (List Int)) (c : Nat) (w : World) (ha : RdSS w A xss) (hs : SzSS xss) :
    Calls Try.prog 39 #[.slice A xss.length c] w (Quietly w (.tuple #[.agg #[.int .i64 (gmT xss), .int .i64 (gmB xss)], .bool (lawsB xss)])) := by
  have ha1 := ha.alloc (.cells #[.int .i64 0, .int .i64 0] 26)
  have HB0 : Below w.heap.size w (w.alloc (.cells #[.int .i64 0, .int .i64 0] 26)) := (Below.refl _ _).alloc (Nat.le_refl _) _
  have B0 := Bx.new w (.int .i64 0) (.int .i64 0) 26
  cases h : lawsB xss with
  | false =>
    rw [(gm_no h).1, (gm_no h).2]
    go_enter Try.func39, Try.ntmps39
    go_wp2_with (go_at_call 72; refine (l7Laws_is _ _ _ _ (by assumption) _ ha1 hs).mono ?_; rintro e w' ⟨rfl, rfl⟩)
    exact bodyPost_ret (v := .tuple #[.agg #[.int .i64 0, .int .i64 0], .bool false]) (by simp [results, Try.results39, go_sem]) rfl ⟨rfl, by with_reducible repeat (first | exact Below.refl _ _ | refine Below.setCell ?_ (by simp) _ | refine Below.alloc ?_ (by simp) _)⟩
  | true =>
    rw [(gm_yes h).1, (gm_yes h).2]
    have HH := Lib.hid h
    have BF := gF_bd h xss.length (Nat.le_refl _)
    have KF := Lib.hid (lw_small (T := gT xss xss.length) (B := thB xss xss.length) (by omega) (by omega) (by omega) (by omega))
    have bc := cutT_bd (a := gT xss xss.length) (b := thB xss xss.length) (by omega) (M := 1562500) (by omega) (by omega)
    have hfst := gTab_first xss xss.length
    have hl := gTab_length xss xss.length
    have CK := fun w => l2Kept_c (gF xss xss.length).1 (gF xss xss.length).2 (by (show -4000000000000000000 ≤ cutT (gT xss xss.length) (thB xss xss.length)); omega) (by (show cutT (gT xss xss.length) (thB xss xss.length) ≤ 4000000000000000000); omega) w
    have hk1 : kpT (gF xss xss.length).1 (gF xss xss.length).2 = (gF xss xss.length).1 := KF.out.2.1
    have hk2 : kpB (gF xss xss.length).1 (gF xss xss.length).2 = (gF xss xss.length).2 := KF.out.2.2
    have hk3 : fracB (gF xss xss.length).1 (gF xss xss.length).2 = true := KF.out.1
    rw [hk1, hk2, hk3] at CK
    have CK := Lib.hid CK
    clear hk1 hk2 hk3
    go_enter Try.func39, Try.ntmps39
    go_wp2_with fail
    refine (l7Laws_is _ _ _ _ h _ ha1 hs).mono ?_
    rintro e w' ⟨rfl, rfl⟩
    clear h
    generalize w.alloc (.cells #[.int .i64 0, .int .i64 0] 26) = x at *
    go_wp2_with fail
    refine (l7Table_c _ _ _ _ ha1 HH.out).mono ?_
    rintro e w2 ⟨g, c2, rfl, ho, hb⟩
    have HB := bUp HB0 hb HB0.size
    have fc := ho.cells (k := 0) (by rw [List.length_reverse]; omega)
    rw [hfst.1, hfst.2] at fc
    have fc : w2.cell? ⟨g, 0, none⟩ = some (.int .i64 (gF xss xss.length).1) ∧ w2.cell? ⟨g, 1, none⟩ = some (.int .i64 (gF xss xss.length).2) := fc
    obtain ⟨f0, f1⟩ := fc
    have B1 := B0.below hb
    clear hl hfst BF bc
    go_wp2_with fail
    refine (CK.out _).mono ?_
    rintro e w3 ⟨rfl, hb3⟩
    clear f0 f1
    have HB3 := bUp HB hb3 HB.size
    obtain ⟨f4, f5, y4, y5, hf4⟩ := B1.below hb3
    go_wp2
    exact bodyPost_ret (v := .tuple #[.agg #[.int .i64 (gF xss xss.length).1, .int .i64 (gF xss xss.length).2], .bool true]) (by simp [results, Try.results39, go_sem, f4, f5]) rfl ⟨rfl, by with_reducible repeat (first | exact HB3 | refine Below.setCell ?_ (by simp <;> omega) _)⟩
end Go.Proofs.Ytjnllbmknblecaa
