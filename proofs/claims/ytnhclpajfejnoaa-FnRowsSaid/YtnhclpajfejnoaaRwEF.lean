/- Rows: RowEarly, both walks (merged of RwE RwF). -/
import Derived.Test.YtnhclpajfejnoaaRwA
import Derived.Test.YtnhclpajfejnoaaSS
namespace Go.Proofs.Ytnhclpajfejnoaa
open Go.RowKit

/-- The first i values with j steps done, where a row may be ended early. -/
def eaR (u d : Int) (T : List (List Int)) (n j i : Nat) : List Int := (List.range i).map (eaA u d T n j)
theorem eaR_len (u d : Int) (T : List (List Int)) (n j i : Nat) : (eaR u d T n j i).length = i := by simp [eaR]
theorem eaR_nth {u d : Int} {T : List (List Int)} {n j i x : Nat} (h : x < i) : nth (eaR u d T n j i) x = eaA u d T n j x := by simp [eaR, nth, h]
theorem eaR_succ (u d : Int) (T : List (List Int)) (n j i : Nat) : eaR u d T n j (i + 1) = eaR u d T n j i ++ [eaA u d T n j i] := by simp [eaR, List.range_succ]
theorem eaR_zero {u d : Int} {T : List (List Int)} {n : Nat} (h : (rowAt T n).length = n + 1) : eaR u d T n 0 (n + 1) = rowAt T n := ext_nth (by rw [eaR_len, h]) fun i hi => by
  rw [eaR_len] at hi
  rw [eaR_nth hi]
  rfl
theorem re_no {n u d : Int} {T : List (List Int)} (h : reB n u d T = false) : reT n u d T = 0 ∧ reU n u d T = 0 := by simp [reT, reU, h]
theorem re_yes {k : Nat} {u d : Int} {T : List (List Int)} (h : reB (k : Int) u d T = true) : reT (k : Int) u d T = cutT (eaA u d T k k 0) (pw (u + d) k) ∧ reU (k : Int) u d T = cutB (eaA u d T k k 0) (pw (u + d) k) := by simp [reT, reU, reN, h]
theorem reB_1 {n u d : Int} {T : List (List Int)} (h : rowB n u d = false) : reB n u d T = false := by simp [reB, h]
theorem reB_2 {n u d : Int} {T : List (List Int)} (h : ¬ (T.length : Int) = n + 1) : reB n u d T = false := by simp [reB, h]
theorem reB_3 {n u d : Int} {T : List (List Int)} {t : Nat} (ht : t < T.length) (h : ¬ (rowAt T t).length = t + 1 ∨ allB (rowAt T t) (-999) 999 = false) : reB n u d T = false := by
  cases hh : reB n u d T with
  | false => rfl
  | true =>
    have hl := (reB_iff.1 hh).2.len
    have h1 := (reB_iff.1 hh).2.rl t (by omega)
    have h2 := (reB_iff.1 hh).2.rb t (by omega)
    rcases h with h | h
    · exact absurd h1 h
    · rw [h2] at h; cases h
theorem reB_4 {k : Nat} {u d : Int} {T : List (List Int)} (h1 : rowB (k : Int) u d = true) (h2 : T.length = k + 1) (h3 : ∀ t, t < T.length → (rowAt T t).length = t + 1 ∧ allB (rowAt T t) (-999) 999 = true) : reB (k : Int) u d T = true := by
  simp only [reB, Bool.and_eq_true, decide_eq_true_eq, tabB_iff]
  exact ⟨⟨h1, by omega⟩, h3⟩
/-- A table's rows, row by row. -/
def RowsT (w : World) (ad : Addr) (T : List (List Int)) : Prop := ∀ j, j < T.length → ∃ A' c', w.cell? (ad.add j) = some (.slice A' (rowAt T j).length c') ∧ Rd w A' (ints (rowAt T j))
theorem rowsT_of {w : World} {ad : Addr} {T : List (List Int)} (h : RdSS w (some ad) T) : RowsT w ad T := fun j hj => by
  obtain ⟨ad', A', c', e, h1, h2⟩ := h j hj
  injection e with e
  subst e
  exact ⟨A', c', h1, h2⟩
theorem RowsT.below {w w' : World} {ad : Addr} {T : List (List Int)} (h : RowsT w ad T) {B : Nat} (hb : Below B w w') (hB : w.heap.size ≤ B) : RowsT w' ad T := fun j hj => by
  obtain ⟨A', c', h1, h2⟩ := h j hj
  exact ⟨A', c', (hb.cell (Nat.lt_of_lt_of_le (cell_lt h1) hB)).trans h1, h2.below hb hB⟩
theorem mx_ifE (x y : Int) : (if x < y then y else x) = mxI x y := by unfold mxI; split <;> split <;> omega
theorem powB {y P : Int} (hy : -999 ≤ y ∧ y ≤ 999) (hP : 1 ≤ P ∧ P ≤ 104976) : -104871024 ≤ y * P ∧ y * P ≤ 104871024 := mulB hy ⟨by omega, hP.2⟩ (by decide) (by decide)
set_option maxRecDepth 20000 in
set_option maxHeartbeats 1000000 in
theorem implRe_c (n u d : Int) (A : Option Addr) (T : List (List Int)) (c : Nat) (w : World) (ha : RdSS w A T) (hs0 : SzSS T) :
    Calls Try.prog 44 #[.int .i64 n, .int .i64 u, .int .i64 d, .slice A T.length c] w (Quietly w (.tuple #[.agg #[.int .i64 (reT n u d T), .int .i64 (reU n u d T)], .bool (reB n u d T)])) := by
  have B0 := Bx.new w (.int .i64 0) (.int .i64 0) 40
  have HB0 : Below w.heap.size w (w.alloc (.cells #[.int .i64 0, .int .i64 0] 40)) := (Below.refl _ _).alloc (Nat.le_refl _) _
  have ha1 := ha.below HB0 (Nat.le_refl _)
  have C := isRow_c n u d (w.alloc (.cells #[.int .i64 0, .int .i64 0] 40))
  have hl := hs0.1
  cases h1 : rowB n u d
  · have h := reB_1 (T := T) h1
    rw [(re_no h).1, (re_no h).2, h]
    rw [h1] at C
    clear h h1
    go_enter Try.func44, Try.ntmps44
    go_wp2_with fail
    refine C.mono ?_
    rintro e w' ⟨rfl, rfl⟩
    obtain ⟨z0, z1, y0, y1, hz⟩ := id B0
    go_wp2_with fail
    exact bodyPost_ret (v := .tuple #[.agg #[.int .i64 (0), .int .i64 (0)], .bool false]) (by simp [results, Try.results44, go_sem, z0, z1]) rfl ⟨rfl, by with_reducible repeat (first | exact HB0 | refine Below.setCell ?_ (by simp) _)⟩
  · have hn := row_n h1
    rw [h1] at C
    by_cases h2 : (T.length : Int) = n + 1
    case neg =>
      have h := reB_2 (u := u) (d := d) h2
      rw [(re_no h).1, (re_no h).2, h]
      clear h h1
      obtain ⟨z0, z1, y0, y1, hz⟩ := id B0
      go_enter Try.func44, Try.ntmps44
      go_wp2_with fail
      refine C.mono ?_
      rintro e w' ⟨rfl, rfl⟩
      go_wp2_with fail
      exact bodyPost_ret (v := .tuple #[.agg #[.int .i64 (0), .int .i64 (0)], .bool false]) (by simp [results, Try.results44, go_sem, z0, z1]) rfl ⟨rfl, by with_reducible repeat (first | exact HB0 | refine Below.setCell ?_ (by simp) _)⟩
    obtain ⟨k, rfl⟩ : ∃ k : Nat, n = (k : Int) := ⟨n.toNat, by omega⟩
    have hk : T.length = k + 1 := by omega
    have h4 : k ≤ 4 := by omega
    obtain ⟨ad, _, _, rfl, _, _⟩ := ha 0 (by omega)
    have HT := Lib.hid (rowsT_of ha1)
    have HS := Lib.hid hs0
    have H1 := Lib.hid h1
    have HK := Lib.hid hk
    obtain ⟨r, hr⟩ : ∃ r, reB (k : Int) u d T = r := ⟨_, rfl⟩
    obtain ⟨rt, hrt⟩ : ∃ r, reT (k : Int) u d T = r := ⟨_, rfl⟩
    obtain ⟨ru, hru⟩ : ∃ r, reU (k : Int) u d T = r := ⟨_, rfl⟩
    rw [hr, hrt, hru, hk]
    have HR := Lib.hid hr
    have HRT := Lib.hid hrt
    have HRU := Lib.hid hru
    clear h1 h2 hn ha ha1 hs0 hr hrt hru hl hk
    generalize hv0 : w.alloc (.cells #[.int .i64 0, .int .i64 0] 40) = v0 at *
    have HV0 := Lib.hid hv0
    clear hv0
    go_enter Try.func44, Try.ntmps44
    go_wp2_with fail
    rw [HV0.out]
    refine C.mono ?_
    rintro e w' ⟨rfl, rfl⟩
    clear C
    go_wp2_with fail
    go_loop [32] (fun i => ∃ t : Nat, t ≤ k + 1 ∧ i = .int .i64 (t : Int) ∧ ∀ j, j < t → (rowAt T j).length = j + 1 ∧ allB (rowAt T j) (-999) 999 = true) (fun i => k + 1 - (intOf i).toNat)
    case atStart => exact ⟨0, by omega, rfl, fun j hj => by omega⟩
    case round =>
      obtain ⟨t, ht, rfl, hall⟩ := hrel
      have HA := Lib.hid hall
      clear hall
      by_cases hlt : t < k + 1
      · obtain ⟨A', c', q1, r1⟩ := HT.out t (by rw [HK.out]; exact hlt)
        have hrl := HS.out.2 t (by rw [HK.out]; exact hlt)
        have i1 : (t : Int) < (k : Int) + 1 := by omega
        have i2 : (t : Int) ≤ (k : Int) := by omega
        have e1 : IntKind.i64.wrap ((t : Int) + 1) = (t : Int) + 1 := IntWalk.i64_in _ (by omega)
        by_cases hlen : (rowAt T t).length = t + 1
        · have CW := allWithin_c A' (rowAt T t) c' (-999) 999 v0 r1 (by omega)
          rw [hlen] at q1 CW
          cases hx : allB (rowAt T t) (-999) 999
          · rw [hx] at CW
            have HN : Hid (reB (k : Int) u d T = false) := Lib.hid (reB_3 (t := t) (by rw [HK.out]; exact hlt) (.inr hx))
            clear hx hlen hrl
            have e0 : r = false ∧ rt = 0 ∧ ru = 0 := ⟨by rw [← HR.out]; exact HN.out, by rw [← HRT.out]; exact (re_no HN.out).1, by rw [← HRU.out]; exact (re_no HN.out).2⟩
            obtain ⟨rfl, rfl, rfl⟩ := e0
            obtain ⟨z0, z1, y0, y1, hz⟩ := id B0
            go_wp2_with fail
            refine CW.mono ?_
            rintro e w' ⟨rfl, rfl⟩
            go_wp2_with fail
            exact bodyPost_ret (v := .tuple #[.agg #[.int .i64 (0), .int .i64 (0)], .bool false]) (by simp [results, Try.results44, go_sem, z0, z1]) rfl ⟨rfl, by with_reducible repeat (first | exact HB0 | refine Below.setCell ?_ (by simp) _)⟩
          · rw [hx] at CW
            have HN : Hid (∀ j, j < t + 1 → (rowAt T j).length = j + 1 ∧ allB (rowAt T j) (-999) 999 = true) := Lib.hid fun j hj => by
              rcases Nat.lt_or_ge j t with h | h
              · exact HA.out j h
              · rw [show j = t by omega]; exact ⟨hlen, hx⟩
            clear hx hlen hrl
            go_wp2_with fail
            refine CW.mono ?_
            rintro e w' ⟨rfl, rfl⟩
            go_wp2_with fail
            go_round
            case rel => exact ⟨t + 1, by omega, by go_num, HN.out⟩
            case measure => simp [intOf] <;> omega
        · have e2 : ¬ ((rowAt T t).length : Int) = (t : Int) + 1 := by omega
          have HN : Hid (reB (k : Int) u d T = false) := Lib.hid (reB_3 (t := t) (by rw [HK.out]; exact hlt) (.inl hlen))
          clear hlen
          have e0 : r = false ∧ rt = 0 ∧ ru = 0 := ⟨by rw [← HR.out]; exact HN.out, by rw [← HRT.out]; exact (re_no HN.out).1, by rw [← HRU.out]; exact (re_no HN.out).2⟩
          obtain ⟨rfl, rfl, rfl⟩ := e0
          obtain ⟨z0, z1, y0, y1, hz⟩ := id B0
          go_wp2_with fail
          exact bodyPost_ret (v := .tuple #[.agg #[.int .i64 (0), .int .i64 (0)], .bool false]) (by simp [results, Try.results44, go_sem, z0, z1]) rfl ⟨rfl, by with_reducible repeat (first | exact HB0 | refine Below.setCell ?_ (by simp) _)⟩
      · obtain rfl : t = k + 1 := by omega
        have hyes := reB_4 H1.out HK.out (fun j hj => HA.out j (by rw [← HK.out]; exact hj))
        have HE : Hid (RowE k u d T) := Lib.hid (by have := (reB_iff.1 hyes).2; rwa [Int.toNat_natCast] at this)
        obtain rfl : r = true := by rw [← HR.out]; exact hyes
        have ert := HRT.out
        have eru := HRU.out
        rw [(re_yes hyes).1] at ert
        rw [(re_yes hyes).2] at eru
        subst ert eru
        clear hyes
        have F := rwFin (a := eaA u d T k k 0) (k := k) HE.out.toRowOk h4 (by have := HE.out.ea (k := k) (i := 0) (by omega); omega)
        have hs : 0 ≤ u + d ∧ u + d ≤ 18 := ⟨F.s0, F.s18⟩
        have hu : 0 ≤ u ∧ u ≤ 9 := ⟨by have := HE.out.u1; omega, HE.out.u9⟩
        have hd : 0 ≤ d ∧ d ≤ 9 := ⟨by have := HE.out.d1; omega, HE.out.d9⟩
        have HF := Lib.hid F
        clear F
        obtain ⟨A', c', q1, r1⟩ := HT.out k (by rw [HK.out]; omega)
        have CW := copied_c A' (rowAt T k) c' v0 r1 (by rw [HE.out.rl k (Nat.le_refl _)]; omega)
        rw [HE.out.rl k (Nat.le_refl _)] at q1 CW
        have i1 : (k : Int) < (k : Int) + 1 := by omega
        have i0 : (0 : Int) ≤ (k : Int) := by omega
        have e1 : IntKind.i64.wrap ((k : Int) - 1) = (k : Int) - 1 := IntWalk.i64_in _ (by omega)
        clear HR HRT HRU HA
        go_wp2_with fail
        refine CW.mono ?_
        rintro e w1 ⟨A1, c1, rfl, o1, b1⟩
        rw [HE.out.rl k (Nat.le_refl _)]
        rw [← eaR_zero (u := u) (d := d) (HE.out.rl k (Nat.le_refl _))] at o1
        clear CW q1 r1
        go_wp2_with fail
        go_loopw [12, 13] (fun t q wr => ∃ (j m : Nat) (A' : Option Addr) (c' : Nat), j + m = k ∧ q = .int .i64 ((m : Int) - 1) ∧ t = .slice A' (m + 1) c' ∧ Own wr v0.heap.size A' c' (eaR u d T k j (m + 1)) ∧ Below v0.heap.size v0 wr) (fun _ q _ => (intOf q + 1).toNat)
        case atStart => exact ⟨0, k, A1, c1, by omega, rfl, rfl, o1, b1⟩
        case round =>
          obtain ⟨wo, rfl⟩ : ∃ wo : World, wo = wr := ⟨_, rfl⟩
          obtain ⟨j, m, A', c', hjm, rfl, rfl, ho, hb⟩ := hrel
          have HJM := Lib.hid hjm
          clear o1 b1 hjm
          obtain ⟨g, rfl, hg1, hg2⟩ := ho.form (by rw [eaR_len]; omega)
          cases m with
          | zero =>
            have q := ho.cellN (k := 0) (by rw [eaR_len]; omega)
            rw [eaR_nth (by omega)] at q
            have e0 : j = k := by have := HJM.out; omega
            subst e0
            generalize eaA u d T j j 0 = x at *
            have f4 : IntKind.i64.wrap (u + d) = u + d := IntWalk.i64_in _ (by omega)
            obtain ⟨k, rfl⟩ : ∃ k : Nat, k = j := ⟨_, rfl⟩
            go_upto_region 20 with fail
            have hd1 : Below wo.heap.size wo wo.drew := Below.drew (Below.refl _ _)
            have SK1 : Hid (∀ w', Below wo.heap.size wo w' → w'.cell? ⟨g, 0, none⟩ = some (.int .i64 x)) := Lib.hid fun w' HV => (HV.cell (cell_lt q)).trans q
            clear q
            have hS1_0 := SK1.out _ hd1
            refine tamed_region (S := fun w' => w'.cell? ⟨g, 0, none⟩ = some (.int .i64 x)) (fun k => k == 11 || k == 12) (by kernel_rfl) ?_
            refine tame0 (k := 0) ?_ rfl (by kernel_rfl) (by kernel_rfl) (by kernel_rfl) (fun _ _ _ h => h) (by kernel_rfl) (fun v => ?_) ?_
            rotate_left
            · (go_simp; all_goals rfl)
            simp only [Act.put, List.setIfInBounds_toArray]
            refine tame0 (k := 1) ?_ rfl (by kernel_rfl) (by kernel_rfl) (by kernel_rfl) (fun _ _ _ h => h) (by kernel_rfl) (fun v => ?_) ?_
            rotate_left
            · (go_simp; all_goals rfl)
            simp only [Act.put]
            refine tameT (k := 2) ?_ rfl (by kernel_rfl) (by kernel_rfl) (by kernel_rfl) (by kernel_rfl) (by kernel_rfl) (fun _ _ _ h => h) (by kernel_rfl) hS1_0 (fun v hv => ?_) ?_
            rotate_left
            · (obtain k1 := hv; go_simp; all_goals rfl)
            simp only [Act.put]
            refine tame0 (k := 3) ?_ rfl (by kernel_rfl) (by kernel_rfl) (by kernel_rfl) (fun _ _ _ h => h) (by kernel_rfl) (fun v => ?_) ?_
            rotate_left
            · (go_simp; all_goals rfl)
            simp only [Act.put]
            refine tame0 (k := 4) ?_ rfl (by kernel_rfl) (by kernel_rfl) (by kernel_rfl) (fun _ _ _ h => h) (by kernel_rfl) (fun v => ?_) ?_
            rotate_left
            · (go_simp; all_goals rfl)
            simp only [Act.put]
            refine tame0 (k := 5) ?_ rfl (by kernel_rfl) (by kernel_rfl) (by kernel_rfl) (fun _ _ _ h => h) (by kernel_rfl) (fun v => ?_) ?_
            rotate_left
            · (go_simp; all_goals rfl)
            simp only [Act.put]
            refine tame0 (k := 6) ?_ rfl (by kernel_rfl) (by kernel_rfl) (by kernel_rfl) (fun _ _ _ h => h) (by kernel_rfl) (fun v => ?_) ?_
            rotate_left
            · (go_simp; all_goals rfl)
            simp only [Act.put]
            have hS1_0v := Lib.hid hS1_0
            clear hS1_0
            refine tame_one (k := 7) (by kernel_rfl) rfl (by kernel_rfl) ?_
            go_simp
            refine (power_c (u + d) k (by omega) hs.1 HF.out.pp _).mono ?_
            rintro e w' ⟨rfl, rfl⟩
            refine ⟨by first | exact hS1_0v | exact Hid.out hS1_0v, ?_⟩
            have CL := lowest_c x (pw (u + d) k) HF.out.a1 HF.out.a2 HF.out.b1 HF.out.b2 wo.drew
            rw [HF.out.t, HF.out.u, HF.out.ok] at CL
            refine tame_one (k := 8) (by kernel_rfl) rfl (by kernel_rfl) ?_
            go_simp
            refine (CL).mono ?_
            rintro e w3 ⟨rfl, b3⟩
            have hd1_1 := bUp hd1 b3 (Nat.le_refl _)
            have hS1_1 := Lib.hid (SK1.out _ hd1_1)
            refine ⟨by first | exact hS1_1 | exact Hid.out hS1_1, ?_⟩
            refine tame0 (k := 9) ?_ rfl (by kernel_rfl) (by kernel_rfl) (by kernel_rfl) (fun _ _ _ h => h) (by kernel_rfl) (fun v => ?_) ?_
            rotate_left
            · (go_simp; all_goals rfl)
            simp only [Act.put]
            refine tame0 (k := 10) ?_ rfl (by kernel_rfl) (by kernel_rfl) (by kernel_rfl) (fun _ _ _ h => h) (by kernel_rfl) (fun v => ?_) ?_
            rotate_left
            · (go_simp; all_goals rfl)
            simp only [Act.put]
            have HBz := bUp HB0 (bUp hb hd1_1 hb.size) HB0.size
            obtain ⟨z0, z1, y0, y1, hz⟩ := (B0.below hb).below hd1_1
            refine tame_one (k := 11) (by kernel_rfl) rfl (by kernel_rfl) ?_
            go_simp
            try (refine ⟨fun h => absurd h (by decide), ?_⟩)
            refine tame_one (k := 12) (by kernel_rfl) rfl (by kernel_rfl) ?_
            go_simp
            try (refine ⟨fun h => absurd h (by decide), ?_⟩)
            refine tame_end (by kernel_rfl) ?_
            go_wp2_with fail
            exact bodyPost_ret (v := .tuple #[.agg #[.int .i64 (cutT x (pw (u + d) k)), .int .i64 (cutB x (pw (u + d) k))], .bool true]) (by simp [results, Try.results44, go_sem, z0, z1]) rfl ⟨rfl, by with_reducible repeat (first | exact HBz | refine Below.setCell ?_ (by simp) _)⟩
          | succ m =>
            have hm4 : m ≤ 4 := by have := HJM.out; omega
            have o0 := Own.lit0 wo wo.heap.size rfl
            have hb0 : Below wo.heap.size wo (wo.alloc (.cells #[] 3)) := (Below.refl _ _).alloc (Nat.le_refl _) _
            have e5 : ((m + 1 : Nat) : Int) - 1 = (m : Int) := by omega
            rw [e5]
            clear e5
            obtain ⟨A7, c7, q7, r7⟩ := (HT.out.below hb (Nat.le_refl _)) m (by rw [HK.out]; have := HJM.out; omega)
            have hl7 : (rowAt T m).length = m + 1 := HE.out.rl m (by have := HJM.out; omega)
            rw [hl7] at q7
            have i3 : (m : Int) < (k : Int) + 1 := by have := HJM.out; omega
            have i4 : (0 : Int) ≤ (m : Int) := by omega
            have HL7 := Lib.hid hl7
            clear hl7
            have q7' := (hb0.cell (cell_lt q7)).trans q7
            go_wp2_with fail
            go_loopw [14, 66] (fun t q wr => ∃ (i : Nat) (A2 : Option Addr) (c2 : Nat), i ≤ m + 1 ∧ q = .int .i64 (i : Int) ∧ t = .slice A2 i c2 ∧ Own wr wo.heap.size A2 c2 (eaR u d T k (j + 1) i) ∧ Below wo.heap.size wo wr) (fun _ q _ => m + 1 - (intOf q).toNat)
            case atStart => exact ⟨0, _, _, by omega, rfl, rfl, o0, hb0⟩
            case round =>
              obtain ⟨v, rfl⟩ : ∃ v : World, v = wr := ⟨_, rfl⟩
              obtain ⟨i, A2, c2, hi, rfl, rfl, hoi, hbi⟩ := hrel
              clear o0 hb0 q7'
              by_cases hlt2 : i < m + 1
              · have q1 := (ho.below hbi).cellN (k := i + 1) (by rw [eaR_len]; omega)
                have q2 := (ho.below hbi).cellN (k := i) (by rw [eaR_len]; omega)
                rw [eaR_nth (by omega)] at q1 q2
                obtain ⟨a7, rfl, q3⟩ := (r7.below hbi (Nat.le_refl _)).intN (k := i) (by rw [HL7.out]; omega)
                have q4 := (hbi.cell (cell_lt q7)).trans q7
                have hjm := HJM.out
                have bx := HE.out.ea (k := j) (i := i + 1) (by omega)
                have by_ := HE.out.ea (k := j) (i := i) (by omega)
                have bv := HE.out.bd m i (by omega) (by omega)
                have bp := HE.out.toRowOk.pb (k := j + 1) (by omega)
                have HZ : Hid (eaA u d T k (j + 1) i = mxI (nth (rowAt T m) i * pw (u + d) (j + 1)) (eaA u d T k j (i + 1) * d + eaA u d T k j i * u)) := Lib.hid (by rw [eaA, show k - (j + 1) = m by omega, Int.mul_comm d, Int.mul_comm u])
                have HPP : Hid (∀ q, q ≤ j + 1 → pw (u + d) q ≤ 1000000000000) := Lib.hid fun q hq => by have := (HE.out.toRowOk.pb (k := q) (by omega)).2; omega
                obtain ⟨P, hP⟩ : ∃ P, pw (u + d) (j + 1) = P := ⟨_, rfl⟩
                have HPW := Lib.hid hP
                rw [hP] at bp HZ
                clear hP
                generalize eaA u d T k j (i + 1) = x at *
                generalize eaA u d T k j i = y at *
                generalize nth (rowAt T m) i = vv at *
                have ma := powB bv bp
                have m1 := mulB (C := 943839216) bx hd (by decide) (by decide)
                have m2 := mulB (C := 943839216) by_ hu (by decide) (by decide)
                have f0 : IntKind.i64.wrap (vv * P) = vv * P := IntWalk.i64_in _ (by omega)
                have f1 : IntKind.i64.wrap (x * d) = x * d := IntWalk.i64_in _ (by omega)
                have f2 : IntKind.i64.wrap (y * u) = y * u := IntWalk.i64_in _ (by omega)
                have f3 : IntKind.i64.wrap (x * d + y * u) = x * d + y * u := IntWalk.i64_in _ (by omega)
                have f4 : IntKind.i64.wrap (u + d) = u + d := IntWalk.i64_in _ (by omega)
                obtain ⟨z, hz⟩ : ∃ z, z = mxI (vv * P) (x * d + y * u) := ⟨_, rfl⟩
                rw [← hz] at HZ
                have HMX : Hid ((if vv * P < x * d + y * u then x * d + y * u else vv * P) = z) := Lib.hid (by rw [hz]; exact mx_ifE _ _)
                have HMZ := Lib.hid hz
                clear hz
                obtain ⟨i1, hi1⟩ : ∃ i1 : Nat, i1 = i + 1 := ⟨_, rfl⟩
                obtain ⟨j1, hj1⟩ : ∃ j1 : Nat, j1 = j + 1 := ⟨_, rfl⟩
                rw [← hj1] at HPP HPW
                have e2 : IntKind.i64.wrap ((i : Int) + 1) = (i1 : Int) := by rw [hi1]; exact IntWalk.i64_in _ (by omega)
                have e3 : IntKind.i64.wrap ((k : Int) - (m : Int)) = (j1 : Int) := by rw [show (k : Int) - (m : Int) = ((j1 : Nat) : Int) by omega]; exact IntWalk.i64_in _ (by omega)
                have hi2 : (i : Int) < (m : Int) + 1 + 1 := by omega
                have hi3 : (i1 : Int) < (m : Int) + 1 + 1 := by omega
                have hi4 : (i : Int) < (m : Int) + 1 := by omega
                have hj4 : j1 ≤ 4 := by omega
                rw [← hi1] at q1
                have HI1 := Lib.hid hi1
                have HJ1 := Lib.hid hj1
                clear hi1 hj1 hjm bx by_ bv bp ma m1 m2
                go_upto_region 17 with fail
                have hd2 : Below v.heap.size v v.drew := Below.drew (Below.refl _ _)
                have SK2 : Hid (∀ w', Below v.heap.size v w' → w'.cell? ⟨g, i1, none⟩ = some (.int .i64 x) ∧ w'.cell? ⟨g, i, none⟩ = some (.int .i64 y)) := Lib.hid fun w' HV => ⟨(HV.cell (cell_lt q1)).trans q1, (HV.cell (cell_lt q2)).trans q2⟩
                clear q1 q2
                have hS2_0 := SK2.out _ hd2
                refine tamed_region (S := fun w' => w'.cell? ⟨g, i1, none⟩ = some (.int .i64 x) ∧ w'.cell? ⟨g, i, none⟩ = some (.int .i64 y)) (fun k => k == 26 || k == 27) (by kernel_rfl) ?_
                refine tame0 (k := 0) ?_ rfl (by kernel_rfl) (by kernel_rfl) (by kernel_rfl) (fun _ _ _ h => h) (by kernel_rfl) (fun v => ?_) ?_
                rotate_left
                · (go_simp; all_goals rfl)
                simp only [Act.put, List.setIfInBounds_toArray]
                refine tame0 (k := 1) ?_ rfl (by kernel_rfl) (by kernel_rfl) (by kernel_rfl) (fun _ _ _ h => h) (by kernel_rfl) (fun v => ?_) ?_
                rotate_left
                · (go_simp; all_goals rfl)
                simp only [Act.put]
                refine tame0 (k := 2) ?_ rfl (by kernel_rfl) (by kernel_rfl) (by kernel_rfl) (fun _ _ _ h => h) (by kernel_rfl) (fun v => ?_) ?_
                rotate_left
                · (go_simp; all_goals rfl)
                simp only [Act.put]
                refine tame0 (k := 3) ?_ rfl (by kernel_rfl) (by kernel_rfl) (by kernel_rfl) (fun _ _ _ h => h) (by kernel_rfl) (fun v => ?_) ?_
                rotate_left
                · (go_simp; all_goals rfl)
                simp only [Act.put]
                refine tame0 (k := 4) ?_ rfl (by kernel_rfl) (by kernel_rfl) (by kernel_rfl) (fun _ _ _ h => h) (by kernel_rfl) (fun v => ?_) ?_
                rotate_left
                · (go_simp; all_goals rfl)
                simp only [Act.put]
                refine tame0 (k := 5) ?_ rfl (by kernel_rfl) (by kernel_rfl) (by kernel_rfl) (fun _ _ _ h => h) (by kernel_rfl) (fun v => ?_) ?_
                rotate_left
                · (go_simp; all_goals rfl)
                simp only [Act.put]
                refine tame0 (k := 6) ?_ rfl (by kernel_rfl) (by kernel_rfl) (by kernel_rfl) (fun _ _ _ h => h) (by kernel_rfl) (fun v => ?_) ?_
                rotate_left
                · (go_simp; all_goals rfl)
                simp only [Act.put]
                refine tame0 (k := 7) ?_ rfl (by kernel_rfl) (by kernel_rfl) (by kernel_rfl) (fun _ _ _ h => h) (by kernel_rfl) (fun v => ?_) ?_
                rotate_left
                · (go_simp; all_goals rfl)
                simp only [Act.put]
                refine tame0 (k := 10) ?_ rfl (by kernel_rfl) (by kernel_rfl) (by kernel_rfl) (fun _ _ _ h => h) (by kernel_rfl) (fun v => ?_) ?_
                rotate_left
                · (go_simp; all_goals rfl)
                simp only [Act.put]
                refine tame0 (k := 11) ?_ rfl (by kernel_rfl) (by kernel_rfl) (by kernel_rfl) (fun _ _ _ h => h) (by kernel_rfl) (fun v => ?_) ?_
                rotate_left
                · (go_simp; all_goals rfl)
                simp only [Act.put]
                refine tame0 (k := 12) ?_ rfl (by kernel_rfl) (by kernel_rfl) (by kernel_rfl) (fun _ _ _ h => h) (by kernel_rfl) (fun v => ?_) ?_
                rotate_left
                · (go_simp; all_goals rfl)
                simp only [Act.put]
                refine tame0 (k := 13) ?_ rfl (by kernel_rfl) (by kernel_rfl) (by kernel_rfl) (fun _ _ _ h => h) (by kernel_rfl) (fun v => ?_) ?_
                rotate_left
                · (go_simp; all_goals rfl)
                simp only [Act.put]
                refine tameT (k := 14) ?_ rfl (by kernel_rfl) (by kernel_rfl) (by kernel_rfl) (by kernel_rfl) (by kernel_rfl) (fun _ _ _ h => h) (by kernel_rfl) hS2_0 (fun v hv => ?_) ?_
                rotate_left
                · (obtain ⟨k1, k2⟩ := hv; go_simp; all_goals rfl)
                simp only [Act.put]
                refine tame0 (k := 15) ?_ rfl (by kernel_rfl) (by kernel_rfl) (by kernel_rfl) (fun _ _ _ h => h) (by kernel_rfl) (fun v => ?_) ?_
                rotate_left
                · (go_simp; all_goals rfl)
                simp only [Act.put]
                refine tame0 (k := 16) ?_ rfl (by kernel_rfl) (by kernel_rfl) (by kernel_rfl) (fun _ _ _ h => h) (by kernel_rfl) (fun v => ?_) ?_
                rotate_left
                · (go_simp; all_goals rfl)
                simp only [Act.put]
                refine tame0 (k := 17) ?_ rfl (by kernel_rfl) (by kernel_rfl) (by kernel_rfl) (fun _ _ _ h => h) (by kernel_rfl) (fun v => ?_) ?_
                rotate_left
                · (go_simp; all_goals rfl)
                simp only [Act.put]
                refine tame0 (k := 18) ?_ rfl (by kernel_rfl) (by kernel_rfl) (by kernel_rfl) (fun _ _ _ h => h) (by kernel_rfl) (fun v => ?_) ?_
                rotate_left
                · (go_simp; all_goals rfl)
                simp only [Act.put]
                refine tame0 (k := 19) ?_ rfl (by kernel_rfl) (by kernel_rfl) (by kernel_rfl) (fun _ _ _ h => h) (by kernel_rfl) (fun v => ?_) ?_
                rotate_left
                · (go_simp; all_goals rfl)
                simp only [Act.put]
                refine tameT (k := 20) ?_ rfl (by kernel_rfl) (by kernel_rfl) (by kernel_rfl) (by kernel_rfl) (by kernel_rfl) (fun _ _ _ h => h) (by kernel_rfl) hS2_0 (fun v hv => ?_) ?_
                rotate_left
                · (obtain ⟨k1, k2⟩ := hv; go_simp; all_goals rfl)
                simp only [Act.put]
                refine tame0 (k := 21) ?_ rfl (by kernel_rfl) (by kernel_rfl) (by kernel_rfl) (fun _ _ _ h => h) (by kernel_rfl) (fun v => ?_) ?_
                rotate_left
                · (go_simp; all_goals rfl)
                simp only [Act.put]
                refine tame0 (k := 22) ?_ rfl (by kernel_rfl) (by kernel_rfl) (by kernel_rfl) (fun _ _ _ h => h) (by kernel_rfl) (fun v => ?_) ?_
                rotate_left
                · (go_simp; all_goals rfl)
                simp only [Act.put]
                refine tame0 (k := 23) ?_ rfl (by kernel_rfl) (by kernel_rfl) (by kernel_rfl) (fun _ _ _ h => h) (by kernel_rfl) (fun v => ?_) ?_
                rotate_left
                · (go_simp; all_goals rfl)
                simp only [Act.put]
                have hS2_0v := Lib.hid hS2_0
                clear hS2_0
                refine tame_one (k := 8) (by kernel_rfl) rfl (by kernel_rfl) ?_
                go_simp
                refine (power_c (u + d) j1 (by omega) hs.1 HPP.out _).mono ?_
                rintro e w' ⟨rfl, rfl⟩
                rw [HPW.out]
                refine ⟨by first | exact hS2_0v | exact Hid.out hS2_0v, ?_⟩
                refine tame0 (k := 9) ?_ rfl (by kernel_rfl) (by kernel_rfl) (by kernel_rfl) (fun _ _ _ h => h) (by kernel_rfl) (fun v => ?_) ?_
                rotate_left
                · (go_simp; all_goals rfl)
                simp only [Act.put]
                refine tame_one (k := 24) (by kernel_rfl) rfl (by kernel_rfl) ?_
                go_simp
                refine ⟨by first | exact hS2_0v | exact Hid.out hS2_0v, ?_⟩
                rw [HMX.out]
                have Hal : Below v.heap.size v (v.alloc (.cells #[.int .i64 z] 3)) := (Below.refl _ _).alloc (Nat.le_refl _) _
                refine tame_one (k := 25) (by kernel_rfl) rfl (by kernel_rfl) ?_
                go_simp
                refine ⟨SK2.out _ Hal, ?_⟩
                refine tame_one (k := 26) (by kernel_rfl) rfl (by kernel_rfl) ?_
                refine op_append_ints _ (.tmp 71) (.tmp 96) rfl wo.heap.size A2 i c2 (eaR u d T k (j + 1) i) rfl (eaR_len _ _ _ _ _ _).symm (hoi.alloc _).drew (some ⟨v.heap.size, 0, none⟩) 1 1 [z] rfl rfl (Rd.box v _ _).drew (by rw [eaR_len]; simp; omega) (by have := hbi.size; simp; omega) ?_
                intro A5 c5 w5 o5 g5 b5
                have gw : v.grownBy w5 (blk A2) := grown_of_alloc_drew g5
                rw [← HZ.out, ← eaR_succ] at o5
                have HB5 := Lib.hid (hbi.grown gw hbi.size hoi.ge)
                refine ⟨fun h => absurd h (by decide), ?_⟩
                simp only [Act.put]
                refine tame_one (k := 27) (by kernel_rfl) rfl (by kernel_rfl) ?_
                go_simp
                try (refine ⟨fun h => absurd h (by decide), ?_⟩)
                refine tame_end (by kernel_rfl) ?_
                obtain rfl := HI1.out
                go_wp2_with fail
                go_roundw
                case rel => first | exact ⟨i + 1, A5, c5, by omega, by go_num, rfl, o5, HB5.out⟩ | (refine ⟨_, _, _, ?_, rfl, rfl, rfl⟩; exact ⟨i + 1, by omega, by go_num, A5, c5, rfl, o5, HB5.out⟩) | (refine ⟨_, _, _, _, ?_, rfl, rfl, rfl, rfl⟩; exact ⟨i + 1, by omega, by go_num, A5, c5, rfl, o5, HB5.out⟩) | (refine ⟨_, _, ?_, rfl, rfl⟩; exact ⟨i + 1, by omega, by go_num, A5, c5, rfl, o5, HB5.out⟩)
                case measure => simp [intOf] <;> omega
              · obtain rfl : i = m + 1 := by omega
                have e9 : IntKind.i64.wrap ((m : Int) - 1) = (m : Int) - 1 := IntWalk.i64_in _ (by omega)
                go_wp2_with fail
                go_roundw
                case rel => exact ⟨j + 1, m, A2, c2, by have := HJM.out; omega, rfl, rfl, hoi.mono hb.size, hb.trans (hbi.mono hb.size)⟩
                case measure => simp [intOf] <;> omega

set_option maxRecDepth 20000 in
set_option maxHeartbeats 1000000 in
theorem specRe_c (n u d : Int) (A : Option Addr) (T : List (List Int)) (c : Nat) (w : World) (ha : RdSS w A T) (hs0 : SzSS T) :
    Calls Try.prog 45 #[.int .i64 n, .int .i64 u, .int .i64 d, .slice A T.length c] w (Quietly w (.tuple #[.agg #[.int .i64 (reT n u d T), .int .i64 (reU n u d T)], .bool (reB n u d T)])) := by
  have B0 := Bx.new w (.int .i64 0) (.int .i64 0) 40
  have HB0 : Below w.heap.size w (w.alloc (.cells #[.int .i64 0, .int .i64 0] 40)) := (Below.refl _ _).alloc (Nat.le_refl _) _
  have ha1 := ha.below HB0 (Nat.le_refl _)
  have C := l6Row_c n u d (w.alloc (.cells #[.int .i64 0, .int .i64 0] 40))
  have hl := hs0.1
  cases h1 : rowB n u d
  · have h := reB_1 (T := T) h1
    rw [(re_no h).1, (re_no h).2, h]
    rw [h1] at C
    clear h h1
    go_enter Try.func45, Try.ntmps45
    go_wp2_with fail
    refine C.mono ?_
    rintro e w' ⟨rfl, rfl⟩
    obtain ⟨z0, z1, y0, y1, hz⟩ := id B0
    go_wp2_with fail
    exact bodyPost_ret (v := .tuple #[.agg #[.int .i64 (0), .int .i64 (0)], .bool false]) (by simp [results, Try.results45, go_sem, z0, z1]) rfl ⟨rfl, by with_reducible repeat (first | exact HB0 | refine Below.setCell ?_ (by simp) _)⟩
  · have hn := row_n h1
    rw [h1] at C
    by_cases h2 : (T.length : Int) = n + 1
    case neg =>
      have h := reB_2 (u := u) (d := d) h2
      rw [(re_no h).1, (re_no h).2, h]
      clear h h1
      obtain ⟨z0, z1, y0, y1, hz⟩ := id B0
      go_enter Try.func45, Try.ntmps45
      go_wp2_with fail
      refine C.mono ?_
      rintro e w' ⟨rfl, rfl⟩
      go_wp2_with fail
      exact bodyPost_ret (v := .tuple #[.agg #[.int .i64 (0), .int .i64 (0)], .bool false]) (by simp [results, Try.results45, go_sem, z0, z1]) rfl ⟨rfl, by with_reducible repeat (first | exact HB0 | refine Below.setCell ?_ (by simp) _)⟩
    obtain ⟨k, rfl⟩ : ∃ k : Nat, n = (k : Int) := ⟨n.toNat, by omega⟩
    have hk : T.length = k + 1 := by omega
    have h4 : k ≤ 4 := by omega
    obtain ⟨ad, _, _, rfl, _, _⟩ := ha 0 (by omega)
    have HT := Lib.hid (rowsT_of ha1)
    have HS := Lib.hid hs0
    have H1 := Lib.hid h1
    have HK := Lib.hid hk
    obtain ⟨r, hr⟩ : ∃ r, reB (k : Int) u d T = r := ⟨_, rfl⟩
    obtain ⟨rt, hrt⟩ : ∃ r, reT (k : Int) u d T = r := ⟨_, rfl⟩
    obtain ⟨ru, hru⟩ : ∃ r, reU (k : Int) u d T = r := ⟨_, rfl⟩
    rw [hr, hrt, hru, hk]
    have HR := Lib.hid hr
    have HRT := Lib.hid hrt
    have HRU := Lib.hid hru
    clear h1 h2 hn ha ha1 hs0 hr hrt hru hl hk
    generalize hv0 : w.alloc (.cells #[.int .i64 0, .int .i64 0] 40) = v0 at *
    have HV0 := Lib.hid hv0
    clear hv0
    go_enter Try.func45, Try.ntmps45
    go_wp2_with fail
    rw [HV0.out]
    refine C.mono ?_
    rintro e w' ⟨rfl, rfl⟩
    clear C
    go_wp2_with fail
    go_loop [10] (fun i => ∃ t : Nat, t ≤ k + 1 ∧ i = .int .i64 (t : Int) ∧ ∀ j, j < t → (rowAt T j).length = j + 1 ∧ allB (rowAt T j) (-999) 999 = true) (fun i => k + 1 - (intOf i).toNat)
    case atStart => exact ⟨0, by omega, rfl, fun j hj => by omega⟩
    case round =>
      obtain ⟨t, ht, rfl, hall⟩ := hrel
      have HA := Lib.hid hall
      clear hall
      by_cases hlt : t < k + 1
      · obtain ⟨A', c', q1, r1⟩ := HT.out t (by rw [HK.out]; exact hlt)
        have hrl := HS.out.2 t (by rw [HK.out]; exact hlt)
        have i1 : (t : Int) < (k : Int) + 1 := by omega
        have i2 : (t : Int) ≤ (k : Int) := by omega
        have e1 : IntKind.i64.wrap ((t : Int) + 1) = (t : Int) + 1 := IntWalk.i64_in _ (by omega)
        have CW := l6Values_c A' (rowAt T t) c' ((t : Int) + 1) v0 r1 (by omega)
        cases hx : (decide (((rowAt T t).length : Int) = (t : Int) + 1) && allB (rowAt T t) (-999) 999)
        · rw [hx] at CW
          have HN : Hid (reB (k : Int) u d T = false) := Lib.hid (reB_3 (t := t) (by rw [HK.out]; exact hlt) (by
            rw [Bool.and_eq_false_iff, decide_eq_false_iff_not] at hx
            rcases hx with h | h
            · exact .inl (by omega)
            · exact .inr h))
          clear hx
          have e0 : r = false ∧ rt = 0 ∧ ru = 0 := ⟨by rw [← HR.out]; exact HN.out, by rw [← HRT.out]; exact (re_no HN.out).1, by rw [← HRU.out]; exact (re_no HN.out).2⟩
          obtain ⟨rfl, rfl, rfl⟩ := e0
          obtain ⟨z0, z1, y0, y1, hz⟩ := id B0
          go_wp2_with fail
          refine CW.mono ?_
          rintro e w' ⟨rfl, rfl⟩
          go_wp2_with fail
          exact bodyPost_ret (v := .tuple #[.agg #[.int .i64 (0), .int .i64 (0)], .bool false]) (by simp [results, Try.results45, go_sem, z0, z1]) rfl ⟨rfl, by with_reducible repeat (first | exact HB0 | refine Below.setCell ?_ (by simp) _)⟩
        · rw [hx] at CW
          have HN : Hid (∀ j, j < t + 1 → (rowAt T j).length = j + 1 ∧ allB (rowAt T j) (-999) 999 = true) := Lib.hid fun j hj => by
            rw [Bool.and_eq_true, decide_eq_true_eq] at hx
            rcases Nat.lt_or_ge j t with h | h
            · exact HA.out j h
            · rw [show j = t by omega]; exact ⟨by omega, hx.2⟩
          clear hx
          go_wp2_with fail
          refine CW.mono ?_
          rintro e w' ⟨rfl, rfl⟩
          go_wp2_with fail
          go_round
          case rel => exact ⟨t + 1, by omega, by go_num, HN.out⟩
          case measure => simp [intOf] <;> omega
      · obtain rfl : t = k + 1 := by omega
        have hyes := reB_4 H1.out HK.out (fun j hj => HA.out j (by rw [← HK.out]; exact hj))
        have HE : Hid (RowE k u d T) := Lib.hid (by have := (reB_iff.1 hyes).2; rwa [Int.toNat_natCast] at this)
        obtain rfl : r = true := by rw [← HR.out]; exact hyes
        have ert := HRT.out
        have eru := HRU.out
        rw [(re_yes hyes).1] at ert
        rw [(re_yes hyes).2] at eru
        subst ert eru
        clear hyes
        have F := rwFin (a := eaA u d T k k 0) (k := k) HE.out.toRowOk h4 (by have := HE.out.ea (k := k) (i := 0) (by omega); omega)
        have hs : 0 ≤ u + d ∧ u + d ≤ 18 := ⟨F.s0, F.s18⟩
        have hu : 0 ≤ u ∧ u ≤ 9 := ⟨by have := HE.out.u1; omega, HE.out.u9⟩
        have hd : 0 ≤ d ∧ d ≤ 9 := ⟨by have := HE.out.d1; omega, HE.out.d9⟩
        have HF := Lib.hid F
        clear F
        obtain ⟨A', c', q1, r1⟩ := HT.out k (by rw [HK.out]; omega)
        have CW := l1Own_c A' (rowAt T k) c' v0 r1 (by rw [HE.out.rl k (Nat.le_refl _)]; omega)
        rw [HE.out.rl k (Nat.le_refl _)] at q1 CW
        have i1 : (k : Int) < (k : Int) + 1 := by omega
        have i0 : (0 : Int) ≤ (k : Int) := by omega
        have e1 : IntKind.i64.wrap ((k : Int) - 1) = (k : Int) - 1 := IntWalk.i64_in _ (by omega)
        clear HR HRT HRU HA
        go_wp2_with fail
        refine CW.mono ?_
        rintro e w1 ⟨A1, c1, rfl, o1, b1⟩
        rw [HE.out.rl k (Nat.le_refl _)]
        rw [← eaR_zero (u := u) (d := d) (HE.out.rl k (Nat.le_refl _))] at o1
        clear CW q1 r1
        go_wp2_with fail
        go_loopw [11, 12] (fun t q wr => ∃ (j m : Nat) (A' : Option Addr) (c' : Nat), j + m = k ∧ q = .int .i64 ((m : Int) - 1) ∧ t = .slice A' (m + 1) c' ∧ Own wr v0.heap.size A' c' (eaR u d T k j (m + 1)) ∧ Below v0.heap.size v0 wr) (fun _ q _ => (intOf q + 1).toNat)
        case atStart => exact ⟨0, k, A1, c1, by omega, rfl, rfl, o1, b1⟩
        case round =>
          obtain ⟨wo, rfl⟩ : ∃ wo : World, wo = wr := ⟨_, rfl⟩
          obtain ⟨j, m, A', c', hjm, rfl, rfl, ho, hb⟩ := hrel
          have HJM := Lib.hid hjm
          clear o1 b1 hjm
          obtain ⟨g, rfl, hg1, hg2⟩ := ho.form (by rw [eaR_len]; omega)
          cases m with
          | zero =>
            have q := ho.cellN (k := 0) (by rw [eaR_len]; omega)
            rw [eaR_nth (by omega)] at q
            have e0 : j = k := by have := HJM.out; omega
            subst e0
            generalize eaA u d T j j 0 = x at *
            have f4 : IntKind.i64.wrap (u + d) = u + d := IntWalk.i64_in _ (by omega)
            obtain ⟨k, rfl⟩ : ∃ k : Nat, k = j := ⟨_, rfl⟩
            go_upto_region 18 with fail
            have hd3 : Below wo.heap.size wo wo.drew := Below.drew (Below.refl _ _)
            have SK3 : Hid (∀ w', Below wo.heap.size wo w' → w'.cell? ⟨g, 0, none⟩ = some (.int .i64 x)) := Lib.hid fun w' HV => (HV.cell (cell_lt q)).trans q
            clear q
            have hS3_0 := SK3.out _ hd3
            refine tamed_region (S := fun w' => w'.cell? ⟨g, 0, none⟩ = some (.int .i64 x)) (fun k => k == 12 || k == 13) (by kernel_rfl) ?_
            refine tame0 (k := 0) ?_ rfl (by kernel_rfl) (by kernel_rfl) (by kernel_rfl) (fun _ _ _ h => h) (by kernel_rfl) (fun v => ?_) ?_
            rotate_left
            · (go_simp; all_goals rfl)
            simp only [Act.put, List.setIfInBounds_toArray]
            refine tame0 (k := 1) ?_ rfl (by kernel_rfl) (by kernel_rfl) (by kernel_rfl) (fun _ _ _ h => h) (by kernel_rfl) (fun v => ?_) ?_
            rotate_left
            · (go_simp; all_goals rfl)
            simp only [Act.put]
            refine tameT (k := 2) ?_ rfl (by kernel_rfl) (by kernel_rfl) (by kernel_rfl) (by kernel_rfl) (by kernel_rfl) (fun _ _ _ h => h) (by kernel_rfl) hS3_0 (fun v hv => ?_) ?_
            rotate_left
            · (obtain k1 := hv; go_simp; all_goals rfl)
            simp only [Act.put]
            refine tame0 (k := 3) ?_ rfl (by kernel_rfl) (by kernel_rfl) (by kernel_rfl) (fun _ _ _ h => h) (by kernel_rfl) (fun v => ?_) ?_
            rotate_left
            · (go_simp; all_goals rfl)
            simp only [Act.put]
            refine tame0 (k := 4) ?_ rfl (by kernel_rfl) (by kernel_rfl) (by kernel_rfl) (fun _ _ _ h => h) (by kernel_rfl) (fun v => ?_) ?_
            rotate_left
            · (go_simp; all_goals rfl)
            simp only [Act.put]
            refine tame0 (k := 5) ?_ rfl (by kernel_rfl) (by kernel_rfl) (by kernel_rfl) (fun _ _ _ h => h) (by kernel_rfl) (fun v => ?_) ?_
            rotate_left
            · (go_simp; all_goals rfl)
            simp only [Act.put]
            refine tame0 (k := 6) ?_ rfl (by kernel_rfl) (by kernel_rfl) (by kernel_rfl) (fun _ _ _ h => h) (by kernel_rfl) (fun v => ?_) ?_
            rotate_left
            · (go_simp; all_goals rfl)
            simp only [Act.put]
            have hS3_0v := Lib.hid hS3_0
            clear hS3_0
            refine tame_one (k := 7) (by kernel_rfl) rfl (by kernel_rfl) ?_
            go_simp
            refine (l6Power_c (u + d) k (by omega) hs.1 hs.2 _).mono ?_
            rintro e w' ⟨rfl, rfl⟩
            refine ⟨by first | exact hS3_0v | exact Hid.out hS3_0v, ?_⟩
            refine tame_one (k := 8) (by kernel_rfl) rfl (by kernel_rfl) ?_
            go_simp
            refine (l2Cut_c x (pw (u + d) k) HF.out.a1 HF.out.a2 HF.out.b1 HF.out.b2 wo.drew).mono ?_
            rintro e w2 ⟨rfl, b2⟩
            have hd3_1 := bUp hd3 b2 (Nat.le_refl _)
            have hS3_1 := Lib.hid (SK3.out _ hd3_1)
            refine ⟨by first | exact hS3_1 | exact Hid.out hS3_1, ?_⟩
            have CK := l2Kept_c (cutT x (pw (u + d) k)) (cutB x (pw (u + d) k)) HF.out.c1 HF.out.c2 w2
            rw [show kpT (cutT x (pw (u + d) k)) (cutB x (pw (u + d) k)) = cutT x (pw (u + d) k) from HF.out.t, show kpB (cutT x (pw (u + d) k)) (cutB x (pw (u + d) k)) = cutB x (pw (u + d) k) from HF.out.u, show fracB (cutT x (pw (u + d) k)) (cutB x (pw (u + d) k)) = true from HF.out.ok] at CK
            refine tame_one (k := 9) (by kernel_rfl) rfl (by kernel_rfl) ?_
            go_simp
            refine (CK).mono ?_
            rintro e w3 ⟨rfl, b3⟩
            have hd3_2 := bUp hd3_1 b3 hd3_1.size
            have hS3_2 := Lib.hid (SK3.out _ hd3_2)
            refine ⟨by first | exact hS3_2 | exact Hid.out hS3_2, ?_⟩
            refine tame0 (k := 10) ?_ rfl (by kernel_rfl) (by kernel_rfl) (by kernel_rfl) (fun _ _ _ h => h) (by kernel_rfl) (fun v => ?_) ?_
            rotate_left
            · (go_simp; all_goals rfl)
            simp only [Act.put]
            refine tame0 (k := 11) ?_ rfl (by kernel_rfl) (by kernel_rfl) (by kernel_rfl) (fun _ _ _ h => h) (by kernel_rfl) (fun v => ?_) ?_
            rotate_left
            · (go_simp; all_goals rfl)
            simp only [Act.put]
            have HBz := bUp HB0 (bUp hb hd3_2 hb.size) HB0.size
            obtain ⟨z0, z1, y0, y1, hz⟩ := (B0.below hb).below hd3_2
            refine tame_one (k := 12) (by kernel_rfl) rfl (by kernel_rfl) ?_
            go_simp
            try (refine ⟨fun h => absurd h (by decide), ?_⟩)
            refine tame_one (k := 13) (by kernel_rfl) rfl (by kernel_rfl) ?_
            go_simp
            try (refine ⟨fun h => absurd h (by decide), ?_⟩)
            refine tame_end (by kernel_rfl) ?_
            go_wp2_with fail
            exact bodyPost_ret (v := .tuple #[.agg #[.int .i64 (cutT x (pw (u + d) k)), .int .i64 (cutB x (pw (u + d) k))], .bool true]) (by simp [results, Try.results45, go_sem, z0, z1]) rfl ⟨rfl, by with_reducible repeat (first | exact HBz | refine Below.setCell ?_ (by simp) _)⟩
          | succ m =>
            have hm4 : m ≤ 4 := by have := HJM.out; omega
            have o0 := Own.lit0 wo wo.heap.size rfl
            have hb0 : Below wo.heap.size wo (wo.alloc (.cells #[] 3)) := (Below.refl _ _).alloc (Nat.le_refl _) _
            have e5 : ((m + 1 : Nat) : Int) - 1 = (m : Int) := by omega
            rw [e5]
            clear e5
            obtain ⟨A7, c7, q7, r7⟩ := (HT.out.below hb (Nat.le_refl _)) m (by rw [HK.out]; have := HJM.out; omega)
            have hl7 : (rowAt T m).length = m + 1 := HE.out.rl m (by have := HJM.out; omega)
            rw [hl7] at q7
            have i3 : (m : Int) < (k : Int) + 1 := by have := HJM.out; omega
            have i4 : (0 : Int) ≤ (m : Int) := by omega
            have HL7 := Lib.hid hl7
            clear hl7
            have q7' := (hb0.cell (cell_lt q7)).trans q7
            go_wp2_with fail
            go_loopw [13, 14] (fun t q wr => ∃ (i : Nat) (A2 : Option Addr) (c2 : Nat), i ≤ m + 1 ∧ q = .int .i64 (i : Int) ∧ t = .slice A2 i c2 ∧ Own wr wo.heap.size A2 c2 (eaR u d T k (j + 1) i) ∧ Below wo.heap.size wo wr) (fun _ q _ => m + 1 - (intOf q).toNat)
            case atStart => exact ⟨0, _, _, by omega, rfl, rfl, o0, hb0⟩
            case round =>
              obtain ⟨v, rfl⟩ : ∃ v : World, v = wr := ⟨_, rfl⟩
              obtain ⟨i, A2, c2, hi, rfl, rfl, hoi, hbi⟩ := hrel
              clear o0 hb0 q7'
              by_cases hlt2 : i < m + 1
              · have q1 := (ho.below hbi).cellN (k := i + 1) (by rw [eaR_len]; omega)
                have q2 := (ho.below hbi).cellN (k := i) (by rw [eaR_len]; omega)
                rw [eaR_nth (by omega)] at q1 q2
                obtain ⟨a7, rfl, q3⟩ := (r7.below hbi (Nat.le_refl _)).intN (k := i) (by rw [HL7.out]; omega)
                have q4 := (hbi.cell (cell_lt q7)).trans q7
                have hjm := HJM.out
                have bx := HE.out.ea (k := j) (i := i + 1) (by omega)
                have by_ := HE.out.ea (k := j) (i := i) (by omega)
                have bv := HE.out.bd m i (by omega) (by omega)
                have bp := HE.out.toRowOk.pb (k := j + 1) (by omega)
                have HZ : Hid (eaA u d T k (j + 1) i = mxI (nth (rowAt T m) i * pw (u + d) (j + 1)) (d * eaA u d T k j (i + 1) + u * eaA u d T k j i)) := Lib.hid (by rw [eaA, show k - (j + 1) = m by omega])
                have HPP : Hid (∀ q, q ≤ j + 1 → pw (u + d) q ≤ 1000000000000) := Lib.hid fun q hq => by have := (HE.out.toRowOk.pb (k := q) (by omega)).2; omega
                obtain ⟨P, hP⟩ : ∃ P, pw (u + d) (j + 1) = P := ⟨_, rfl⟩
                have HPW := Lib.hid hP
                rw [hP] at bp HZ
                clear hP
                generalize eaA u d T k j (i + 1) = x at *
                generalize eaA u d T k j i = y at *
                generalize nth (rowAt T m) i = vv at *
                have ma := powB bv bp
                have m1 := mulB (C := 943839216) bx hd (by decide) (by decide)
                have m2 := mulB (C := 943839216) by_ hu (by decide) (by decide)
                rw [Int.mul_comm] at m1 m2
                have f0 : IntKind.i64.wrap (vv * P) = vv * P := IntWalk.i64_in _ (by omega)
                have f1 : IntKind.i64.wrap (d * x) = d * x := IntWalk.i64_in _ (by omega)
                have f2 : IntKind.i64.wrap (u * y) = u * y := IntWalk.i64_in _ (by omega)
                have f3 : IntKind.i64.wrap (d * x + u * y) = d * x + u * y := IntWalk.i64_in _ (by omega)
                have f4 : IntKind.i64.wrap (u + d) = u + d := IntWalk.i64_in _ (by omega)
                obtain ⟨z, hz⟩ : ∃ z, z = mxI (vv * P) (d * x + u * y) := ⟨_, rfl⟩
                rw [← hz] at HZ
                have HMX : Hid ((if vv * P < d * x + u * y then d * x + u * y else vv * P) = z) := Lib.hid (by rw [hz]; exact mx_ifE _ _)
                have HMZ := Lib.hid hz
                clear hz
                obtain ⟨i1, hi1⟩ : ∃ i1 : Nat, i1 = i + 1 := ⟨_, rfl⟩
                obtain ⟨j1, hj1⟩ : ∃ j1 : Nat, j1 = j + 1 := ⟨_, rfl⟩
                rw [← hj1] at HPP HPW
                have e2 : IntKind.i64.wrap ((i : Int) + 1) = (i1 : Int) := by rw [hi1]; exact IntWalk.i64_in _ (by omega)
                have e3 : IntKind.i64.wrap ((k : Int) - (m : Int)) = (j1 : Int) := by rw [show (k : Int) - (m : Int) = ((j1 : Nat) : Int) by omega]; exact IntWalk.i64_in _ (by omega)
                have hi2 : (i : Int) < (m : Int) + 1 + 1 := by omega
                have hi3 : (i1 : Int) < (m : Int) + 1 + 1 := by omega
                have hi4 : (i : Int) < (m : Int) + 1 := by omega
                have hj4 : j1 ≤ 4 := by omega
                rw [← hi1] at q1
                have HI1 := Lib.hid hi1
                have HJ1 := Lib.hid hj1
                clear hi1 hj1 hjm bx by_ bv bp ma m1 m2
                go_upto_region 16 with fail
                have hd4 : Below v.heap.size v v.drew := Below.drew (Below.refl _ _)
                have SK4 : Hid (∀ w', Below v.heap.size v w' → w'.cell? (ad.add m) = some (.slice (some a7) (m + 1) c7) ∧ w'.cell? (a7.add i) = some (.int .i64 vv) ∧ w'.cell? ⟨g, i1, none⟩ = some (.int .i64 x) ∧ w'.cell? ⟨g, i, none⟩ = some (.int .i64 y)) := Lib.hid fun w' HV => ⟨(HV.cell (cell_lt q4)).trans q4, (HV.cell (cell_lt q3)).trans q3, (HV.cell (cell_lt q1)).trans q1, (HV.cell (cell_lt q2)).trans q2⟩
                clear q1 q2 q3 q4
                have hS4_0 := SK4.out _ hd4
                refine tamed_region (S := fun w' => w'.cell? (ad.add m) = some (.slice (some a7) (m + 1) c7) ∧ w'.cell? (a7.add i) = some (.int .i64 vv) ∧ w'.cell? ⟨g, i1, none⟩ = some (.int .i64 x) ∧ w'.cell? ⟨g, i, none⟩ = some (.int .i64 y)) (fun k => k == 32 || k == 33) (by kernel_rfl) ?_
                refine tame0 (k := 0) ?_ rfl (by kernel_rfl) (by kernel_rfl) (by kernel_rfl) (fun _ _ _ h => h) (by kernel_rfl) (fun v => ?_) ?_
                rotate_left
                · (go_simp; all_goals rfl)
                simp only [Act.put, List.setIfInBounds_toArray]
                refine tame0 (k := 1) ?_ rfl (by kernel_rfl) (by kernel_rfl) (by kernel_rfl) (fun _ _ _ h => h) (by kernel_rfl) (fun v => ?_) ?_
                rotate_left
                · (go_simp; all_goals rfl)
                simp only [Act.put]
                refine tame0 (k := 2) ?_ rfl (by kernel_rfl) (by kernel_rfl) (by kernel_rfl) (fun _ _ _ h => h) (by kernel_rfl) (fun v => ?_) ?_
                rotate_left
                · (go_simp; all_goals rfl)
                simp only [Act.put]
                refine tame0 (k := 3) ?_ rfl (by kernel_rfl) (by kernel_rfl) (by kernel_rfl) (fun _ _ _ h => h) (by kernel_rfl) (fun v => ?_) ?_
                rotate_left
                · (go_simp; all_goals rfl)
                simp only [Act.put]
                refine tameT (k := 4) ?_ rfl (by kernel_rfl) (by kernel_rfl) (by kernel_rfl) (by kernel_rfl) (by kernel_rfl) (fun _ _ _ h => h) (by kernel_rfl) hS4_0 (fun v hv => ?_) ?_
                rotate_left
                · (obtain ⟨k1, k2, k3, k4⟩ := hv; go_simp; all_goals rfl)
                simp only [Act.put]
                refine tame0 (k := 5) ?_ rfl (by kernel_rfl) (by kernel_rfl) (by kernel_rfl) (fun _ _ _ h => h) (by kernel_rfl) (fun v => ?_) ?_
                rotate_left
                · (go_simp; all_goals rfl)
                simp only [Act.put]
                refine tame0 (k := 6) ?_ rfl (by kernel_rfl) (by kernel_rfl) (by kernel_rfl) (fun _ _ _ h => h) (by kernel_rfl) (fun v => ?_) ?_
                rotate_left
                · (go_simp; all_goals rfl)
                simp only [Act.put]
                refine tameT (k := 7) ?_ rfl (by kernel_rfl) (by kernel_rfl) (by kernel_rfl) (by kernel_rfl) (by kernel_rfl) (fun _ _ _ h => h) (by kernel_rfl) hS4_0 (fun v hv => ?_) ?_
                rotate_left
                · (obtain ⟨k1, k2, k3, k4⟩ := hv; go_simp; all_goals rfl)
                simp only [Act.put]
                refine tame0 (k := 8) ?_ rfl (by kernel_rfl) (by kernel_rfl) (by kernel_rfl) (fun _ _ _ h => h) (by kernel_rfl) (fun v => ?_) ?_
                rotate_left
                · (go_simp; all_goals rfl)
                simp only [Act.put]
                refine tame0 (k := 9) ?_ rfl (by kernel_rfl) (by kernel_rfl) (by kernel_rfl) (fun _ _ _ h => h) (by kernel_rfl) (fun v => ?_) ?_
                rotate_left
                · (go_simp; all_goals rfl)
                simp only [Act.put]
                refine tame0 (k := 10) ?_ rfl (by kernel_rfl) (by kernel_rfl) (by kernel_rfl) (fun _ _ _ h => h) (by kernel_rfl) (fun v => ?_) ?_
                rotate_left
                · (go_simp; all_goals rfl)
                simp only [Act.put]
                refine tame0 (k := 11) ?_ rfl (by kernel_rfl) (by kernel_rfl) (by kernel_rfl) (fun _ _ _ h => h) (by kernel_rfl) (fun v => ?_) ?_
                rotate_left
                · (go_simp; all_goals rfl)
                simp only [Act.put]
                refine tame0 (k := 12) ?_ rfl (by kernel_rfl) (by kernel_rfl) (by kernel_rfl) (fun _ _ _ h => h) (by kernel_rfl) (fun v => ?_) ?_
                rotate_left
                · (go_simp; all_goals rfl)
                simp only [Act.put]
                refine tame0 (k := 13) ?_ rfl (by kernel_rfl) (by kernel_rfl) (by kernel_rfl) (fun _ _ _ h => h) (by kernel_rfl) (fun v => ?_) ?_
                rotate_left
                · (go_simp; all_goals rfl)
                simp only [Act.put]
                refine tame0 (k := 16) ?_ rfl (by kernel_rfl) (by kernel_rfl) (by kernel_rfl) (fun _ _ _ h => h) (by kernel_rfl) (fun v => ?_) ?_
                rotate_left
                · (go_simp; all_goals rfl)
                simp only [Act.put]
                refine tame0 (k := 17) ?_ rfl (by kernel_rfl) (by kernel_rfl) (by kernel_rfl) (fun _ _ _ h => h) (by kernel_rfl) (fun v => ?_) ?_
                rotate_left
                · (go_simp; all_goals rfl)
                simp only [Act.put]
                refine tame0 (k := 18) ?_ rfl (by kernel_rfl) (by kernel_rfl) (by kernel_rfl) (fun _ _ _ h => h) (by kernel_rfl) (fun v => ?_) ?_
                rotate_left
                · (go_simp; all_goals rfl)
                simp only [Act.put]
                refine tame0 (k := 19) ?_ rfl (by kernel_rfl) (by kernel_rfl) (by kernel_rfl) (fun _ _ _ h => h) (by kernel_rfl) (fun v => ?_) ?_
                rotate_left
                · (go_simp; all_goals rfl)
                simp only [Act.put]
                refine tame0 (k := 20) ?_ rfl (by kernel_rfl) (by kernel_rfl) (by kernel_rfl) (fun _ _ _ h => h) (by kernel_rfl) (fun v => ?_) ?_
                rotate_left
                · (go_simp; all_goals rfl)
                simp only [Act.put]
                refine tameT (k := 21) ?_ rfl (by kernel_rfl) (by kernel_rfl) (by kernel_rfl) (by kernel_rfl) (by kernel_rfl) (fun _ _ _ h => h) (by kernel_rfl) hS4_0 (fun v hv => ?_) ?_
                rotate_left
                · (obtain ⟨k1, k2, k3, k4⟩ := hv; go_simp; all_goals rfl)
                simp only [Act.put]
                refine tame0 (k := 22) ?_ rfl (by kernel_rfl) (by kernel_rfl) (by kernel_rfl) (fun _ _ _ h => h) (by kernel_rfl) (fun v => ?_) ?_
                rotate_left
                · (go_simp; all_goals rfl)
                simp only [Act.put]
                refine tame0 (k := 23) ?_ rfl (by kernel_rfl) (by kernel_rfl) (by kernel_rfl) (fun _ _ _ h => h) (by kernel_rfl) (fun v => ?_) ?_
                rotate_left
                · (go_simp; all_goals rfl)
                simp only [Act.put]
                refine tame0 (k := 24) ?_ rfl (by kernel_rfl) (by kernel_rfl) (by kernel_rfl) (fun _ _ _ h => h) (by kernel_rfl) (fun v => ?_) ?_
                rotate_left
                · (go_simp; all_goals rfl)
                simp only [Act.put]
                refine tame0 (k := 25) ?_ rfl (by kernel_rfl) (by kernel_rfl) (by kernel_rfl) (fun _ _ _ h => h) (by kernel_rfl) (fun v => ?_) ?_
                rotate_left
                · (go_simp; all_goals rfl)
                simp only [Act.put]
                refine tame0 (k := 26) ?_ rfl (by kernel_rfl) (by kernel_rfl) (by kernel_rfl) (fun _ _ _ h => h) (by kernel_rfl) (fun v => ?_) ?_
                rotate_left
                · (go_simp; all_goals rfl)
                simp only [Act.put]
                refine tameT (k := 27) ?_ rfl (by kernel_rfl) (by kernel_rfl) (by kernel_rfl) (by kernel_rfl) (by kernel_rfl) (fun _ _ _ h => h) (by kernel_rfl) hS4_0 (fun v hv => ?_) ?_
                rotate_left
                · (obtain ⟨k1, k2, k3, k4⟩ := hv; go_simp; all_goals rfl)
                simp only [Act.put]
                refine tame0 (k := 28) ?_ rfl (by kernel_rfl) (by kernel_rfl) (by kernel_rfl) (fun _ _ _ h => h) (by kernel_rfl) (fun v => ?_) ?_
                rotate_left
                · (go_simp; all_goals rfl)
                simp only [Act.put]
                refine tame0 (k := 29) ?_ rfl (by kernel_rfl) (by kernel_rfl) (by kernel_rfl) (fun _ _ _ h => h) (by kernel_rfl) (fun v => ?_) ?_
                rotate_left
                · (go_simp; all_goals rfl)
                simp only [Act.put]
                have hS4_0v := Lib.hid hS4_0
                clear hS4_0
                refine tame_one (k := 14) (by kernel_rfl) rfl (by kernel_rfl) ?_
                go_simp
                refine (l6Power_c (u + d) j1 (by omega) hs.1 hs.2 _).mono ?_
                rintro e w' ⟨rfl, rfl⟩
                rw [HPW.out]
                refine ⟨by first | exact hS4_0v | exact Hid.out hS4_0v, ?_⟩
                refine tame0 (k := 15) ?_ rfl (by kernel_rfl) (by kernel_rfl) (by kernel_rfl) (fun _ _ _ h => h) (by kernel_rfl) (fun v => ?_) ?_
                rotate_left
                · (go_simp; all_goals rfl)
                simp only [Act.put]
                refine tame_one (k := 30) (by kernel_rfl) rfl (by kernel_rfl) ?_
                go_simp
                refine (l1Most_c _ _ _).mono ?_
                rintro e w' ⟨rfl, rfl⟩
                rw [← HMZ.out]
                refine ⟨by first | exact hS4_0v | exact Hid.out hS4_0v, ?_⟩
                have Hal : Below v.heap.size v (v.alloc (.cells #[.int .i64 z] 3)) := (Below.refl _ _).alloc (Nat.le_refl _) _
                refine tame_one (k := 31) (by kernel_rfl) rfl (by kernel_rfl) ?_
                go_simp
                refine ⟨SK4.out _ Hal, ?_⟩
                refine tame_one (k := 32) (by kernel_rfl) rfl (by kernel_rfl) ?_
                refine op_append_ints _ (.tmp 59) (.tmp 90) rfl wo.heap.size A2 i c2 (eaR u d T k (j + 1) i) rfl (eaR_len _ _ _ _ _ _).symm (hoi.alloc _).drew (some ⟨v.heap.size, 0, none⟩) 1 1 [z] rfl rfl (Rd.box v _ _).drew (by rw [eaR_len]; simp; omega) (by have := hbi.size; simp; omega) ?_
                intro A5 c5 w5 o5 g5 b5
                have gw : v.grownBy w5 (blk A2) := grown_of_alloc_drew g5
                rw [← HZ.out, ← eaR_succ] at o5
                have HB5 := Lib.hid (hbi.grown gw hbi.size hoi.ge)
                refine ⟨fun h => absurd h (by decide), ?_⟩
                simp only [Act.put]
                refine tame_one (k := 33) (by kernel_rfl) rfl (by kernel_rfl) ?_
                go_simp
                try (refine ⟨fun h => absurd h (by decide), ?_⟩)
                refine tame_end (by kernel_rfl) ?_
                obtain rfl := HI1.out
                go_wp2_with fail
                go_roundw
                case rel => first | exact ⟨i + 1, A5, c5, by omega, by go_num, rfl, o5, HB5.out⟩ | (refine ⟨_, _, _, ?_, rfl, rfl, rfl⟩; exact ⟨i + 1, by omega, by go_num, A5, c5, rfl, o5, HB5.out⟩) | (refine ⟨_, _, _, _, ?_, rfl, rfl, rfl, rfl⟩; exact ⟨i + 1, by omega, by go_num, A5, c5, rfl, o5, HB5.out⟩) | (refine ⟨_, _, ?_, rfl, rfl⟩; exact ⟨i + 1, by omega, by go_num, A5, c5, rfl, o5, HB5.out⟩)
                case measure => simp [intOf] <;> omega
              · obtain rfl : i = m + 1 := by omega
                have e9 : IntKind.i64.wrap ((m : Int) - 1) = (m : Int) - 1 := IntWalk.i64_in _ (by omega)
                go_wp2_with fail
                go_roundw
                case rel => exact ⟨j + 1, m, A2, c2, by have := HJM.out; omega, rfl, rfl, hoi.mono hb.size, hb.trans (hbi.mono hb.size)⟩
                case measure => simp [intOf] <;> omega

end Go.Proofs.Ytnhclpajfejnoaa
